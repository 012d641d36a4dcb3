import Derived.Test.YtehaohfglolljaaGreatDoorZzak
import Derived.Test.YtehaohfglolljaaGreatDoorZzao
import Derived.Test.YtehaohfglolljaaGreatDoorZzap
import Derived.Test.YtehaohfglolljaaGreatDoorZzal
import Derived.Test.YtehaohfglolljaaGreatDoorZzag
import Derived.Test.YtehaohfglolljaaGreatDoorZzah
import Derived.KernelRfl
import Derived.Test.YtehaohfglolljaaGreatDoorZzaj
set_option linter.unusedSimpArgs false
set_option linter.unusedVariables false
namespace Go.Proofs.YtehaohfglolljaaGreatDoor
open Go Go.V Go.Pat
set_option maxRecDepth 100000
noncomputable def R3 : ROps Tryz.E := ROps.warm (ROps.rune R2)
noncomputable def D4 : Ctr Tryz.E := Ctr.or Ustr D2
theorem z1as : zb9 (fun x : List UInt8 × Pat => z5m Tryz.E R3 D4.C (fun _ _ => .unroll 8) 4 17 [.str x.1] [] (zbf (zrj x.2))) zos = zeb zos := by kernel_rfl
theorem z19j (p : Pat) (h : p ∈ z2e) : HCall Tryz.E 17 [.str (z1f p)] (.ret (.tup [zi3 p, .int .i64 0]) []) :=
 HCall.of_walkB (R := R3) (T := D4) (fun _ _ => .unroll 8) 4 rfl (z9t z1as (z1f p, p) (zfy h)) (fun _ => ztf) rfl
theorem z1bj (p : Pat) (h : p ∈ z2e) : HCall Tryz.E 17 [.str (z1f p)] (.ret (.tup [z9k p, .int .i64 0]) []) :=
 HCall.weak (z19j p h) (z9m (z1b (zla _) (z1b (leV.refl _) z4w))) (z41 _ (by show zw _ = true; rw [zw, zd5]; rfl) _)
end Go.Proofs.YtehaohfglolljaaGreatDoor
namespace Go.Proofs.YtehaohfglolljaaGreatDoor
open Go Go.V Go.Pat Go.Fld Go.Pol Go.Cha Go.Bla
set_option maxRecDepth 100000
noncomputable def RSh : ROps Tryz.E := ROps.lit (ROps.cold0 Tryz.E).aggc
end Go.Proofs.YtehaohfglolljaaGreatDoor
namespace Go.Proofs.YtehaohfglolljaaGreatDoor
open Go Go.V Go.Pat Go.Shk
set_option maxRecDepth 100000
def ks4 (p : Pat) (a b c d : List UInt8) : List (List UInt8) := List.take p.psks.length [a, b, c, d]
theorem z1ft {p : Pat} {l : List (List UInt8)} (h : l.length = p.psks.length) (hp : p.psks.length ≤ 4) : ∃ a b c d, l = ks4 p a b c d := by
 unfold ks4;rw [← h] at hp ⊢
 match l, hp with
 | [], _ => exact ⟨[], [], [], [], rfl⟩
 | [a], _ => exact ⟨a, [], [], [], rfl⟩
 | [a, b], _ => exact ⟨a, b, [], [], rfl⟩
 | [a, b, c], _ => exact ⟨a, b, c, [], rfl⟩
 | [a, b, c, d], _ => exact ⟨a, b, c, d, rfl⟩
 | _ :: _ :: _ :: _ :: _ :: _, h => simp at h
theorem zgf {p : Pat} (h : p ∈ z2e) : p.psks.length ≤ 4 := by
 have : (z2e.all fun p => decide (p.psks.length ≤ 4)) = true := by kernel_rfl
 have := List.all_eq_true.1 this p h;simpa using this
theorem z19y (f de sh has knows saw : Bool) (turn used : Int) (n : UInt64) (ck ch hs own fr their newest a b c d : List UInt8) :
  zb9 (fun p : Pat => z5m Tryz.E RSh (Ctr.nil Tryz.E).C (fun _ _ => .unroll 8) 4 24 [shA p ⟨f, turn, de, sh, ck, n, ch, hs, own, fr, has, their, knows, newest, saw, ks4 p a b c d, used⟩] [] (z18s (shA p ⟨f, turn, de, sh, ck, n, ch, hs, own, fr, has, their, knows, newest, saw, ks4 p a b c d, used⟩))) z2e
  = zr5 (fun p : Pat => shA p ⟨f, turn, de, sh, ck, n, ch, hs, own, fr, has, their, knows, newest, saw, ks4 p a b c d, used⟩) z2e := by kernel_rfl
theorem z1am (p : Pat) (s : Sh) (hp : p ∈ z2e) (hl : s.psks.length = p.psks.length) : HCall Tryz.E 24 [shA p s] (.ret (shA p s) []) := by
 obtain ⟨f, turn, de, sh, ck, n, ch, hs, own, fr, has, their, knows, newest, saw, psks, used⟩ := s;obtain ⟨a, b, c, d, rfl⟩ := z1ft hl (zgf hp);refine HCall.of_walkE (R := RSh) (T := Ctr.nil Tryz.E) (fun _ _ => .unroll 8) 4 (by rw [zw, zt7]; rfl) ?_ (zt7 _ _)
 exact z172 (z19y f de sh has knows saw turn used n ck ch hs own fr their newest a b c d) p hp
end Go.Proofs.YtehaohfglolljaaGreatDoor
namespace Go.Proofs.YtehaohfglolljaaGreatDoor
open Go Go.V Go.Pat Go.Fld Go.Pol Go.Cha Go.Bla Go.Shk
set_option maxRecDepth 100000
theorem zb1 (has : Bool) (ck hash b : List UInt8) (n : UInt64) : (z2b has ck n hash b).length = (bif has then b.length + 16 else b.length) := by
 rw [zje, zj3];cases has with
 | true => exact z7c _ _ _ _
 | false => rfl
theorem zq4 {has : Bool} {ck hash b : List UInt8} {n : UInt64} : (z47 has ck n b).length = (bif has then b.length - 16 else b.length) := by
 rw [zp0, zmw];cases has with
 | true => exact zh1 _ _ _
 | false => rfl
theorem HCall.vecZ {f : FuncId} {args : List AV} {o o' : Out} (h : HCall Tryz.E f args o) (hle : ∀ v H, o.has v H → okOut o' v H) (ho : o'.okB = true) : HCall Tryz.E f args o' := by
 refine ⟨h.pa, ho, fun ρ I w vs c r => (h.call ρ I w vs c r).mono ?_⟩
 rintro e w' ⟨x, rfl, ρ', I', v, H', gd, c', hr, hh⟩;rcases hle _ _ hh with hh | ⟨v', v'', u, h1, h2, h3, h4⟩
 ·exact ⟨x, rfl, ρ', I', v, H', gd, c', hr, hh⟩
 ·obtain ⟨I2, f1, f2, f3, f4⟩ := zaa v I' H' c' (by rw [h1])
  rw [h1] at f1 f2 f4;obtain ⟨c2, g2⟩ := z6v f2 0 (fun e he => by simp at he)
  exact ⟨x, rfl, z74 0 ρ', I2, v'', [], g2 (gd.trans f1) (fun id h => absurd (c.dom id h) (by simp)) (Nat.le_refl _), c2, z6y h3 (h2 _ _ _ _ (f4 _ hr)), h4⟩
def errZ (e : Int) : Out := .ret (.tup [.agg [.bool false, .b8 32 [0, 0, 0, 0, 0, 0, 0, 0, 0, 0, 0, 0, 0, 0, 0, 0, 0, 0, 0, 0, 0, 0, 0, 0, 0, 0, 0, 0, 0, 0, 0, 0], .u64 0, .b8 32 [0, 0, 0, 0, 0, 0, 0, 0, 0, 0, 0, 0, 0, 0, 0, 0, 0, 0, 0, 0, 0, 0, 0, 0, 0, 0, 0, 0, 0, 0, 0, 0], .b8 32 [0, 0, 0, 0, 0, 0, 0, 0, 0, 0, 0, 0, 0, 0, 0, 0, 0, 0, 0, 0, 0, 0, 0, 0, 0, 0, 0, 0, 0, 0, 0, 0]], .vec8 true [], .int .i64 e]) []
noncomputable def zrp (has : Bool) (ck : List UInt8) (n : UInt64) (chain hash b : List UInt8) : Out :=
 .alt (z7v has ck n hash b) (.ret (.tup [z7a has ck (symN has n) chain (sumS (hash ++ b)), .vec8 false (z47 has ck n b), .int .i64 0]) []) (errZ (bif ltB b.length 16 then 4 else 10))
theorem z17r (H : zc) (has : Bool) (ck : List UInt8) (n : UInt64) (chain hash : List UInt8) : z1x H (z7a has ck n chain hash) = (true, z7a has ck n chain hash, []) := by cases H <;> rfl
theorem zz6 (has : Bool) (ck : List UInt8) (n : UInt64) (chain hash l : List UInt8) (e : Int) : z3b [.grow8 l []] (.tup [z7a has ck n chain hash, .sl 0 0 1 l.length, .int .i64 e]) = (true, .tup [z7a has ck n chain hash, .vec8 false l, .int .i64 e], [(0, .grow8 l [(0, l.length)])]) := by
 have e1 : zl [Ent.grow8 l []] [] = [Ent.grow8 l []] := rfl;simp only [z3b, z27, z17r, e1, zrz (show l.length = l.length from rfl)]
 rfl
theorem z1at (chain hash ck b : List UInt8) (has fb : Bool) (n : UInt64) (h1 : hash.length ≤ 200) (h2 : b.length ≤ 800) (h3 : symK has ck n = true) :
  HCall Tryz.E 57 [.agg [.bool has, .b8 32 ck, .u64 n, .b8 32 chain, .b8 32 hash], .vec8 fb b] (zrp has ck n chain hash b) := by
 cases h4 : z7v has ck n hash b with
 | true =>
  unfold zrp;rw [h4];refine HCall.alt_l rfl rfl ?_;refine HCall.vecZ (zwu chain hash ck b has fb n h1 h2 h3 h4) (fun v H h => ?_) rfl
  obtain ⟨rfl, rfl⟩ := h;refine okOut.cold (v' := .tup [z7a has ck (symN has n) chain (sumS (hash ++ b)), .vec8 false (z47 has ck n b), .int .i64 0]) (u := [(0, .grow8 (z47 has ck n b) [(0, (z47 has ck n b).length)])]) ?_ (leV.refl _) rfl ⟨rfl, rfl⟩;exact zz6 _ _ _ _ _ _ _
 | false =>
  unfold zrp;rw [h4];refine HCall.alt_r rfl rfl ?_;rw [zou] at h4;cases has with
  | false => exact absurd h4 (by simp [zgj])
  | true =>
  have h4 : (leB 16 b.length && !(zb6 ck (z2f n) hash b)) = false := by simpa [zgj] using h4
  rw [zjt] at h3;have h3 : z9b n = false := by simpa [zbm] using h3
  refine HCall.weak (a := AV.tup [AV.agg [AV.agg [AV.bool Bool.false, AV.b8 32 [0, 0, 0, 0, 0, 0, 0, 0, 0, 0, 0, 0, 0, 0, 0, 0, 0, 0, 0, 0, 0, 0, 0, 0, 0, 0, 0, 0, 0, 0, 0, 0], AV.u64 0], AV.b8 32 [0, 0, 0, 0, 0, 0, 0, 0, 0, 0, 0, 0, 0, 0, 0, 0, 0, 0, 0, 0, 0, 0, 0, 0, 0, 0, 0, 0, 0, 0, 0, 0], AV.b8 32 [0, 0, 0, 0, 0, 0, 0, 0, 0, 0, 0, 0, 0, 0, 0, 0, 0, 0, 0, 0, 0, 0, 0, 0, 0, 0, 0, 0, 0, 0, 0, 0]], AV.vec8 Bool.true [], AV.int IntKind.i64 (bif ltB b.length 16 then 4 else 10)]) ?_ (z9m (z1b (z4n _) (z1b (leV.refl _) (z1b (leV.refl _) z4w)))) rfl;refine HCall.of_walk (R := RQ) (T := Y3) (fun f l => .unroll 5) 5 rfl rfl ?_
  rw [zst];dsimp only;rw [z3l (a := 800) (by omega), z3l (a := 200) (by omega), z3l (a := 816) (by omega), zp (a := b.length) (by omega), zp (a := hash.length + b.length) (by omega), h3]
  cases h5 : ltB b.length 16 with
  | true => exact ⟨rfl, rfl⟩
  | false =>
   have h6 : zb6 ck (z2f n) hash b = true := by
    rw [zp (z3h h5), Bool.true_and, Bool.not_eq_false'] at h4;exact h4
   rw [h6];exact ⟨rfl, rfl⟩
noncomputable def Y6 : Ctr Tryz.E := ((Y3.add 54 (fun
  | [.agg [.bool has, .b8 32 ck, .u64 n, .b8 32 chain, .b8 32 hash], .vec8 _ b] => some (leB hash.length 200 && (leB b.length 800 && symK has ck n), zmu has ck n chain hash b)
  | _ => none) (by
   intro args pre out h hp
   split at h
   ·obtain ⟨rfl, rfl⟩ := spE h;simp only [Bool.and_eq_true] at hp;exact zxp _ _ _ _ _ _ _ (zh.1 hp.1) (zh.1 hp.2.1) hp.2.2
   ·simp at h)).add 57 (fun
  | [.agg [.bool has, .b8 32 ck, .u64 n, .b8 32 chain, .b8 32 hash], .vec8 _ b] => some (leB hash.length 200 && (leB b.length 800 && symK has ck n), zrp has ck n chain hash b)
  | _ => none) (by
   intro args pre out h hp
   split at h
   ·obtain ⟨rfl, rfl⟩ := spE h;simp only [Bool.and_eq_true] at hp;exact z1at _ _ _ _ _ _ _ (zh.1 hp.1) (zh.1 hp.2.1) hp.2.2
   ·simp at h))
noncomputable def F3 : Ctr Tryz.E := ((Ctr.nil Tryz.E).add 24 (fun
  | [.agg l] => some (isSh (flL l), .ret (.agg (flL l)) [])
  | _ => none) (by
   intro args pre out h hp
   split at h
   ·rename_i l;obtain ⟨rfl, rfl⟩ := spE h;obtain ⟨p, s, h1, h2, h3⟩ := zsf.1 hp;rw [h3];have hl : leV (.agg l) (shV p s) := by
     have := z4n l;rw [h3] at this; exact this
    have hpl : zw [AV.agg l] = true := by
     show (zw l && true) = true;rw [← z8g, h3]; rfl
    exact HCall.weak (HCall.args (z1am p s h1 h2) hpl (z1b (hl.trans (z1hm p s)) z4w)) (z1hh p s) rfl
   ·simp at h)).add 51 (fun
  | [.agg l] => some (isP (flL l), .ret (.int .i64 0) [])
  | _ => none) (by
   intro args pre out h hp
   split at h
   ·rename_i l;obtain ⟨rfl, rfl⟩ := spE h;obtain ⟨p, h1, h3⟩ := zjo.1 hp;have hl : leV (.agg l) (zi3 p) := by
     have := z4n l;rw [h3] at this; exact this
    have hpl : zw [AV.agg l] = true := by
     show (zw l && true) = true;rw [← z8g, h3]; rfl
    exact HCall.args (zym p h1) hpl (z1b (hl.trans (zla p)) z4w)
   ·simp at h)
noncomputable def KQ : Ctr Tryz.E := Ctr.or F3 (Ctr.or M1 Y6)
structure Hd where
 s : Sh
 out : List UInt8
 inn : List UInt8
 e : Int
noncomputable def z5j (h : Hd) (e : Int) : Hd := { h with e := e }
noncomputable def z7w (h : Hd) (k : List UInt8) : Hd := { h with s := { h.s with sh := true, ck := z23 h.s.ch k, n := 0, ch := z25 h.s.ch k } }
noncomputable def zbj (h : Hd) (k : List UInt8) : Hd := { h with s := { h.s with hs := sumS (h.s.hs ++ k) } }
noncomputable def dhH (own saw : Bool) (sec pub : List UInt8) (h : Hd) : Hd := bif !own || !saw then z5j h 5 else bif !z3e sec pub then z5j h 12 else z7w h (dhS sec pub)
noncomputable def zih (h : Hd) : Hd :=
 { h with s := { h.s with sh := true, ck := z9q h.s.ch (h.s.psks.getD h.s.used.toNat []), n := 0, ch := z25 h.s.ch (h.s.psks.getD h.s.used.toNat []), hs := sumS (h.s.hs ++ z23 h.s.ch (h.s.psks.getD h.s.used.toNat [])), used := h.s.used + 1 } }
noncomputable def z1v (t : Int) (h : Hd) : Hd :=
 bif t == 3 then dhH h.s.has h.s.saw h.s.fr h.s.newest h
 else bif t == 6 then dhH true h.s.knows h.s.own h.s.their h
 else bif t == 7 then (bif decide ((h.s.psks.length : Int) ≤ h.s.used) then z5j h 5 else zih h)
 else bif (t == 4) == h.s.first then dhH h.s.has h.s.knows h.s.fr h.s.their h
 else dhH true h.s.saw h.s.own h.s.newest h
noncomputable def zbn (b : List UInt8) (h : Hd) : Hd :=
 { h with s := { h.s with n := symN h.s.sh h.s.n, hs := sumS (h.s.hs ++ z2b h.s.sh h.s.ck h.s.n h.s.hs b) }, out := h.out ++ z2b h.s.sh h.s.ck h.s.n h.s.hs b }
noncomputable def z4q (k : List UInt8) (h : Hd) : Hd := bif decide (0 < h.s.psks.length) then z7w (zbj h k) k else zbj h k
noncomputable def z3d (sec : List UInt8) (h : Hd) (t : Int) : Hd :=
 bif h.e == 0 then
  bif t == 1 then z4q (zz sec) { h with s := { h.s with fr := sec, has := true }, out := h.out ++ zz sec }
  else bif t == 2 then zbn (zz h.s.own) h
  else z1v t h
 else h
noncomputable def z3u (h : Hd) : Nat := bif h.s.sh then 48 else 32
noncomputable def z2t (h : Hd) (t : Int) : Hd :=
 bif h.e == 0 then
  bif t == 1 then (bif ltB h.inn.length 32 then z5j h 4 else
   z4q (h.inn.take 32) { h with s := { h.s with newest := h.inn.take 32, saw := true }, inn := h.inn.drop 32 })
  else bif t == 2 then (bif ltB h.inn.length (z3u h) then z5j h 4 else
   bif z7v h.s.sh h.s.ck h.s.n h.s.hs (h.inn.take (z3u h)) then
    { h with s := { h.s with n := symN h.s.sh h.s.n, hs := sumS (h.s.hs ++ h.inn.take (z3u h)), their := z47 h.s.sh h.s.ck h.s.n (h.inn.take (z3u h)), knows := true }, inn := h.inn.drop (z3u h) }
   else { h with s := { h.s with knows := true }, inn := h.inn.drop (z3u h), e := bif ltB (h.inn.take (z3u h)).length 16 then 4 else 10 })
  else z1v t h
 else h
def z12 (p : Pat) (s : Sh) : List Int := p.turns.getD s.turn.toNat []
noncomputable def zzc (p : Pat) (s : Sh) (b : List UInt8) : Nat → Hd
 | 0 => ⟨s, [], b, 0⟩
 | i + 1 => z2t (zzc p s b i) ((z12 p s).getD i 0)
noncomputable def hdR : Pat → Sh → List UInt8 → Nat → Hd := (zf zzc).val
theorem z12o : hdR = zzc := by rw [hdR, (zf zzc).property]
noncomputable def zzt (p : Pat) (s : Sh) (sec : List UInt8) : Nat → Hd
 | 0 => ⟨s, [], [], 0⟩
 | i + 1 => z3d sec (zzt p s sec i) ((z12 p s).getD i 0)
noncomputable def hdW : Pat → Sh → List UInt8 → Nat → Hd := (zf zzt).val
theorem z13v : hdW = zzt := by rw [hdW, (zf zzt).property]
def hdC (p : Pat) (h : Hd) (out inn : AV) : List AV := [.str p.base, .bool p.late, .vecr false 1 p.psks.length (intF p.psks), .vecr false 1 p.pre0.length (intF p.pre0), .vecr false 1 p.pre1.length (intF p.pre1), .vecr false 1 p.turns.length (trF p.turns), .bool h.s.first, .int .i64 h.s.turn, .bool h.s.dead, .bool h.s.sh, .b8 32 h.s.ck, .u64 h.s.n, .b8 32 h.s.ch, .b8 32 h.s.hs, .b8 32 h.s.own, .b8 32 h.s.fr, .bool h.s.has, .b8 32 h.s.their, .bool h.s.knows, .b8 32 h.s.newest, .bool h.s.saw, .vecr false 32 h.s.psks.length (keyF h.s.psks), .int .i64 h.s.used, out, inn, .int .i64 h.e]
noncomputable def z192 (p : Pat) (s : Sh) (b : List UInt8) (f _r : Nat) : LPlan := bif f == 10 then
 .mv [1, 2, 4, 5, 6, 8, 34, 35] [35] Nat Inv.upTo Inv.up (fun _ => []) (fun _ i => [(36, .int .i64 ((i : Nat) : Int))]) (fun _ i => [(2, .blk (hdC p (hdR p s b i) (.vec8 true []) (.vec8 false (hdR p s b i).inn)) [])]) (fun _ => []) else .none
def outOf (c : List AV) : AV := (flL c).getD 23 .any
noncomputable def z14d (p : Pat) (s : Sh) (sec : List UInt8) (f _r : Nat) : LPlan := bif f == 8 then
 .mv [2, 3, 4, 6, 7, 8, 10, 34, 35] [35] Nat Inv.upTo Inv.up (fun st => match st.H.getD 3 .dead with | .blk c _ => [outOf c] | _ => []) (fun _ i => [(36, .int .i64 ((i : Nat) : Int))])
  (fun n i => [(3, .blk (hdC p (hdW p s sec i) (.sl n 0 1 (hdW p s sec i).out.length) (.vec8 true [])) [])]) (fun i => [.grow8 (hdW p s sec i).out []]) else .none
def zks : List UInt8 := [0, 0, 0, 0, 0, 0, 0, 0, 0, 0, 0, 0, 0, 0, 0, 0, 0, 0, 0, 0, 0, 0, 0, 0, 0, 0, 0, 0, 0, 0, 0, 0]
def ziw : List AV := [.str [], .bool false, .vec true 1 [], .vec true 1 [], .vec true 1 [], .vec true 1 [], .bool false, .int .i64 0, .bool false, .bool false, .b8 32 zks, .u64 0, .b8 32 zks, .b8 32 zks, .b8 32 zks, .b8 32 zks, .bool false, .b8 32 zks, .bool false, .b8 32 zks, .bool false, .vec true 32 [], .int .i64 0]
def zz9 (p : Pat) (s : Sh) (b : List UInt8) (c : Int) (w : Nat) (k : Prop) : Prop :=
 (b = b) ∧ (([] : List UInt8) = []) ∧ (AV.int .i64 0 = AV.int .i64 0) ∧ ((z12 p s).length = (z12 p s).length) ∧ (∀ x : Nat, x < (z12 p s).length → leR [AV.int .i64 ((z12 p s).getD x 0)] [AV.int .i64 ((z12 p s).getD x 0)]) ∧
  (AV.int .i64 ((z12 p s).length : Int) = AV.int .i64 ((z12 p s).length : Int)) ∧ (AV.int .i64 c = AV.int .i64 ((w : Nat) : Int)) ∧ z94 0 [] (shC p s) (shC p s) k
def z17 (p : Pat) (s : Sh) (fb : Bool) (b : List UInt8) (i : Nat) (c : Int) (A : Hd) : Prop :=
 ∃ w : Nat, ((Inv.up w < Inv.up i) ∧ Inv.upTo [AV.int .i64 ((z12 p s).length : Int)] w) ∧ cnd (fb || !fb) (zz9 p s b c w (z94 0 [] ziw ziw
  (z94 0 [] (hdC p A (.vec8 true []) (.vec8 false A.inn)) (hdC p (hdR p s b w) (.vec8 true []) (.vec8 false (hdR p s b w).inn)) True)))
def z1t (p : Pat) (s : Sh) (fb : Bool) (sec b : List UInt8) (i : Nat) (c : Int) (m : Nat) (A : Hd) : Prop :=
 ∃ w : Nat, ((Inv.up w < Inv.up i) ∧ Inv.upTo [AV.int .i64 ((z12 p s).length : Int)] w) ∧ cnd (fb || !fb) (zz9 p s b c w ((AV.b8 32 sec = AV.b8 32 sec) ∧ z94 0 [] ziw ziw
  (z94 0 [] (hdC p A (.int .i64 0) (.vec8 true [])).dropLast.dropLast.dropLast (hdC p (hdW p s sec w) (.int .i64 0) (.vec8 true [])).dropLast.dropLast.dropLast
   ((m = (hdW p s sec w).out.length) ∧ (([] : List UInt8) = []) ∧ (AV.int .i64 A.e = AV.int .i64 (hdW p s sec w).e) ∧ (A.out = (hdW p s sec w).out) ∧ True))))
theorem z18a (p : Pat) (s : Sh) {k : Prop} (hk : k) : z94 0 [] (shC p s) (shC p s) k := And.intro rfl (And.intro rfl (And.intro rfl (And.intro (fun x _ => leR.refl rfl) (And.intro rfl (And.intro (fun x _ => leR.refl rfl) (And.intro rfl (And.intro (fun x _ => leR.refl rfl) (And.intro rfl (And.intro (fun x _ => leR.refl rfl) (And.intro rfl (And.intro rfl (And.intro rfl (And.intro rfl (And.intro rfl (And.intro rfl (And.intro rfl (And.intro rfl (And.intro rfl (And.intro rfl (And.intro rfl (And.intro rfl (And.intro rfl (And.intro rfl (And.intro rfl (And.intro rfl (And.intro (fun x _ => leR.refl rfl) (And.intro rfl (hk))))))))))))))))))))))))))))
theorem zlz {k : Prop} (hk : k) : z94 0 [] ziw ziw k := And.intro rfl (And.intro rfl (And.intro rfl (And.intro rfl (And.intro rfl (And.intro rfl (And.intro rfl (And.intro rfl (And.intro rfl (And.intro rfl (And.intro rfl (And.intro rfl (And.intro rfl (And.intro rfl (And.intro rfl (And.intro rfl (And.intro rfl (And.intro rfl (And.intro rfl (And.intro rfl (And.intro rfl (And.intro rfl (And.intro rfl (hk)))))))))))))))))))))))
theorem z160 (p : Pat) (h : Hd) {k : Prop} (hk : k) : z94 0 [] (hdC p h (.vec8 true []) (.vec8 false h.inn)) (hdC p h (.vec8 true []) (.vec8 false h.inn)) k := And.intro rfl (And.intro rfl (And.intro rfl (And.intro (fun x _ => leR.refl rfl) (And.intro rfl (And.intro (fun x _ => leR.refl rfl) (And.intro rfl (And.intro (fun x _ => leR.refl rfl) (And.intro rfl (And.intro (fun x _ => leR.refl rfl) (And.intro rfl (And.intro rfl (And.intro rfl (And.intro rfl (And.intro rfl (And.intro rfl (And.intro rfl (And.intro rfl (And.intro rfl (And.intro rfl (And.intro rfl (And.intro rfl (And.intro rfl (And.intro rfl (And.intro rfl (And.intro rfl (And.intro (fun x _ => leR.refl rfl) (And.intro rfl (And.intro rfl (And.intro rfl (And.intro rfl (hk)))))))))))))))))))))))))))))))
theorem z188 (p : Pat) (h : Hd) {k : Prop} (hk : k) : z94 0 [] (hdC p h (.int .i64 0) (.vec8 true [])).dropLast.dropLast.dropLast (hdC p h (.int .i64 0) (.vec8 true [])).dropLast.dropLast.dropLast k := And.intro rfl (And.intro rfl (And.intro rfl (And.intro (fun x _ => leR.refl rfl) (And.intro rfl (And.intro (fun x _ => leR.refl rfl) (And.intro rfl (And.intro (fun x _ => leR.refl rfl) (And.intro rfl (And.intro (fun x _ => leR.refl rfl) (And.intro rfl (And.intro rfl (And.intro rfl (And.intro rfl (And.intro rfl (And.intro rfl (And.intro rfl (And.intro rfl (And.intro rfl (And.intro rfl (And.intro rfl (And.intro rfl (And.intro rfl (And.intro rfl (And.intro rfl (And.intro rfl (And.intro (fun x _ => leR.refl rfl) (And.intro rfl (hk))))))))))))))))))))))))))))
theorem zty {p : Pat} {s : Sh} {b : List UInt8} {w : Nat} {k : Prop} (hk : k) : zz9 p s b (w : Int) w k :=
 ⟨rfl, rfl, rfl, rfl, fun _ _ => leR.refl rfl, rfl, rfl, z18a p s hk⟩
theorem z17x {p : Pat} {s : Sh} {fb : Bool} {b : List UInt8} {i : Nat} {A : Hd} (hi : i < (z12 p s).length) (ht : (z12 p s).length < 1000) (h1 : A.s = (hdR p s b (i + 1)).s) (h2 : A.inn = (hdR p s b (i + 1)).inn) (h3 : A.e = (hdR p s b (i + 1)).e) :
  z17 p s fb b i (wr .i64 ((i : Int) + 1)) A := by
 have hw : wr .i64 ((i : Int) + 1) = ((i + 1 : Nat) : Int) := by rw [z2o (by omega) (by omega)]; rfl
 rw [hw];refine ⟨i + 1, ⟨Inv.up_lt (by omega), Inv.upTo_int.2 (by omega)⟩, ze.2 ⟨by cases fb <;> rfl, zty (zlz ?_)⟩⟩
 have e : hdC p A (.vec8 true []) (.vec8 false A.inn) = hdC p (hdR p s b (i + 1)) (.vec8 true []) (.vec8 false (hdR p s b (i + 1)).inn) := by
  unfold hdC; rw [h1, h2, h3]
 rw [e];exact z160 p _ trivial
theorem z18e {p : Pat} {s : Sh} {fb : Bool} {sec b : List UInt8} {i m : Nat} {A : Hd} (hi : i < (z12 p s).length) (ht : (z12 p s).length < 1000) (h1 : A.s = (hdW p s sec (i + 1)).s) (h2 : A.out = (hdW p s sec (i + 1)).out) (h3 : A.e = (hdW p s sec (i + 1)).e)
  (h4 : m = A.out.length) : z1t p s fb sec b i (wr .i64 ((i : Int) + 1)) m A := by
 have hw : wr .i64 ((i : Int) + 1) = ((i + 1 : Nat) : Int) := by rw [z2o (by omega) (by omega)]; rfl
 rw [hw];refine ⟨i + 1, ⟨Inv.up_lt (by omega), Inv.upTo_int.2 (by omega)⟩, ze.2 ⟨by cases fb <;> rfl, zty ⟨rfl, zlz ?_⟩⟩⟩
 have e : (hdC p A (.int .i64 0) (.vec8 true [])).dropLast.dropLast.dropLast = (hdC p (hdW p s sec (i + 1)) (.int .i64 0) (.vec8 true [])).dropLast.dropLast.dropLast := by
  show shC p A.s = shC p (hdW p s sec (i + 1)).s;rw [h1]
 rw [e];exact z188 p _ ⟨by rw [h4, h2], rfl, by rw [h3], h2, trivial⟩
set_option maxHeartbeats 0
theorem z1fy (p : Pat) (s : Sh) (fb : Bool) (b : List UInt8) (K : AV → zc → Prop) : walk Tryz.E RSh KQ.C (z192 p s b) 6 10 [shV p s, .vec8 fb b] K = (
 let x0 : Bool := Shk.Sh.dead s
 let x1 : Bool := (Pat.Pat.late p)
 let x2 : List Int := (Pat.Pat.psks p)
 let x3 : Nat := (List.length x2)
 let x4 : List Int := (Pat.Pat.pre0 p)
 let x5 : Nat := (List.length x4)
 let x6 : List Int := (Pat.Pat.pre1 p)
 let x7 : Nat := (List.length x6)
 let x8 : List (List Int) := (Pat.Pat.turns p)
 let x9 : Nat := (List.length x8)
 let x10 : Bool := (Shk.Sh.first s)
 let x11 : Int := (Shk.Sh.turn s)
 let x12 : List (List UInt8) := (Shk.Sh.psks s)
 let x13 : Nat := (List.length x12)
 let x14 : Int := (Shk.Sh.used s)
 let x15 : List AV := [AV.str (Pat.Pat.base p), AV.bool x1, AV.vecr false 1 x3 (Pat.intF x2), AV.vecr false 1 x5 (Pat.intF x4), AV.vecr false 1 x7 (Pat.intF x6), AV.vecr false 1 x9 (Pat.trF x8), AV.bool x10, AV.int .i64 x11, AV.bool x0, AV.bool (Shk.Sh.sh s), AV.b8 32 (Shk.Sh.ck s), AV.u64 (Shk.Sh.n s), AV.b8 32 (Shk.Sh.ch s), AV.b8 32 (Shk.Sh.hs s), AV.b8 32 (Shk.Sh.own s), AV.b8 32 (Shk.Sh.fr s), AV.bool (Shk.Sh.has s), AV.b8 32 (Shk.Sh.their s), AV.bool (Shk.Sh.knows s), AV.b8 32 (Shk.Sh.newest s), AV.bool (Shk.Sh.saw s), AV.vecr false 32 x13 (Shk.keyF x12), AV.int .i64 x14]
 let x16 : List Int := (List.getD x8 (Int.toNat x11) [])
 let x17 : Nat := (List.length x16)
 let x18 : Int := ((x17 : Nat) : Int)
 let x19 : Bool := fb || (Bool.not fb)
 let x20 : List UInt8 := (List.take 32 [])
 let x21 : List AV := [AV.str (Pat.Pat.base p), AV.bool x1, AV.vecr false 1 x3 (Pat.intF x2), AV.vecr false 1 x5 (Pat.intF x4), AV.vecr false 1 x7 (Pat.intF x6), AV.vecr false 1 x9 (Pat.trF x8), AV.bool x10, AV.int .i64 x11, AV.bool true, AV.bool (Shk.Sh.sh s), AV.b8 32 (Shk.Sh.ck s), AV.u64 (Shk.Sh.n s), AV.b8 32 (Shk.Sh.ch s), AV.b8 32 (Shk.Sh.hs s), AV.b8 32 (Shk.Sh.own s), AV.b8 32 (Shk.Sh.fr s), AV.bool (Shk.Sh.has s), AV.b8 32 (Shk.Sh.their s), AV.bool (Shk.Sh.knows s), AV.b8 32 (Shk.Sh.newest s), AV.bool (Shk.Sh.saw s), AV.vecr false 32 x13 (Shk.keyF x12), AV.int .i64 x14]
 za (x0)
 (cnd (Shk.isSh x15)
 (K (AV.tup [AV.agg x15, AV.vec8 true [], AV.int .i64 9]) []))
 (za (cond false true (ltI x11 0))
 (cnd (Shk.isSh x15)
 (K (AV.tup [AV.agg x15, AV.vec8 true [], AV.int .i64 9]) []))
 (za (cond false true (Bool.not (ltI x11 ((x9 : Nat) : Int))))
 (cnd (Shk.isSh x15)
 (K (AV.tup [AV.agg x15, AV.vec8 true [], AV.int .i64 9]) []))
 (za (cond false true ((((Int.tmod x11 2) == 0) == (x10 != x1)) != false))
 (cnd (Shk.isSh x15)
 (K (AV.tup [AV.agg x15, AV.vec8 true [], AV.int .i64 9]) []))
 (cnd (Shk.isP [AV.str (Pat.Pat.base p), AV.bool x1, AV.vecr false 1 x3 (Pat.intF x2), AV.vecr false 1 x5 (Pat.intF x4), AV.vecr false 1 x7 (Pat.intF x6), AV.vecr false 1 x9 (Pat.trF x8)])
 (za (cond false true (ltI x14 0))
 (cnd (Shk.isSh x15)
 (K (AV.tup [AV.agg x15, AV.vec8 true [], AV.int .i64 9]) []))
 (za (ltI 800 (((List.length b) : Nat) : Int))
 (cnd (Shk.isSh x15)
 (K (AV.tup [AV.agg x15, AV.vec8 true [], AV.int .i64 1]) []))
 (cnd ((inB x11 x9) && true)
 ((∃ w0 : Nat, (Inv.upTo [AV.int .i64 x18] w0) ∧ cnd (x19)
 ((b = b) ∧ ((([] : List UInt8) = []) ∧ ((AV.int .i64 0 = AV.int .i64 0) ∧ ((x17 = x17) ∧ ((∀ w1 : Nat, (w1 < x17 → leR [AV.int .i64 (List.getD x16 w1 0)] [AV.int .i64 (List.getD x16 w1 0)])) ∧ ((AV.int .i64 x18 = AV.int .i64 x18) ∧ ((AV.int .i64 0 = AV.int .i64 ((w0 : Nat) : Int)) ∧ ((AV.str (Pat.Pat.base p) = AV.str (Pat.Pat.base p)) ∧ ((AV.bool x1 = AV.bool x1) ∧ ((x3 = x3) ∧ ((∀ w2 : Nat, (w2 < x3 → leR [AV.int .i64 (List.getD x2 w2 0)] [AV.int .i64 (List.getD x2 w2 0)])) ∧ ((x5 = x5) ∧ ((∀ w3 : Nat, (w3 < x5 → leR [AV.int .i64 (List.getD x4 w3 0)] [AV.int .i64 (List.getD x4 w3 0)])) ∧ ((x7 = x7) ∧ ((∀ w4 : Nat, (w4 < x7 → leR [AV.int .i64 (List.getD x6 w4 0)] [AV.int .i64 (List.getD x6 w4 0)])) ∧ ((x9 = x9) ∧ ((∀ w5 : Nat, (w5 < x9 → leR [AV.vecr false 1 (List.length (List.getD x8 w5 [])) (Pat.intF (List.getD x8 w5 []))] [AV.vecr false 1 (List.length (List.getD x8 w5 [])) (Pat.intF (List.getD x8 w5 []))])) ∧ ((AV.bool x10 = AV.bool x10) ∧ ((AV.int .i64 x11 = AV.int .i64 x11) ∧ ((AV.bool x0 = AV.bool x0) ∧ ((AV.bool (Shk.Sh.sh s) = AV.bool (Shk.Sh.sh s)) ∧ ((AV.b8 32 (Shk.Sh.ck s) = AV.b8 32 (Shk.Sh.ck s)) ∧ ((AV.u64 (Shk.Sh.n s) = AV.u64 (Shk.Sh.n s)) ∧ ((AV.b8 32 (Shk.Sh.ch s) = AV.b8 32 (Shk.Sh.ch s)) ∧ ((AV.b8 32 (Shk.Sh.hs s) = AV.b8 32 (Shk.Sh.hs s)) ∧ ((AV.b8 32 (Shk.Sh.own s) = AV.b8 32 (Shk.Sh.own s)) ∧ ((AV.b8 32 (Shk.Sh.fr s) = AV.b8 32 (Shk.Sh.fr s)) ∧ ((AV.bool (Shk.Sh.has s) = AV.bool (Shk.Sh.has s)) ∧ ((AV.b8 32 (Shk.Sh.their s) = AV.b8 32 (Shk.Sh.their s)) ∧ ((AV.bool (Shk.Sh.knows s) = AV.bool (Shk.Sh.knows s)) ∧ ((AV.b8 32 (Shk.Sh.newest s) = AV.b8 32 (Shk.Sh.newest s)) ∧ ((AV.bool (Shk.Sh.saw s) = AV.bool (Shk.Sh.saw s)) ∧ ((x13 = x13) ∧ ((∀ w6 : Nat, (w6 < x13 → leR [AV.b8 32 (List.getD x12 w6 [])] [AV.b8 32 (List.getD x12 w6 [])])) ∧ ((AV.int .i64 x14 = AV.int .i64 x14) ∧ ((AV.str [] = AV.str []) ∧ ((AV.bool false = AV.bool false) ∧ ((AV.vec true 1 [] = AV.vec true 1 []) ∧ ((AV.vec true 1 [] = AV.vec true 1 []) ∧ ((AV.vec true 1 [] = AV.vec true 1 []) ∧ ((AV.vec true 1 [] = AV.vec true 1 []) ∧ ((AV.bool false = AV.bool false) ∧ ((AV.int .i64 0 = AV.int .i64 0) ∧ ((AV.bool false = AV.bool false) ∧ ((AV.bool false = AV.bool false) ∧ ((AV.b8 32 [0, 0, 0, 0, 0, 0, 0, 0, 0, 0, 0, 0, 0, 0, 0, 0, 0, 0, 0, 0, 0, 0, 0, 0, 0, 0, 0, 0, 0, 0, 0, 0] = AV.b8 32 [0, 0, 0, 0, 0, 0, 0, 0, 0, 0, 0, 0, 0, 0, 0, 0, 0, 0, 0, 0, 0, 0, 0, 0, 0, 0, 0, 0, 0, 0, 0, 0]) ∧ ((AV.u64 0 = AV.u64 0) ∧ ((AV.b8 32 [0, 0, 0, 0, 0, 0, 0, 0, 0, 0, 0, 0, 0, 0, 0, 0, 0, 0, 0, 0, 0, 0, 0, 0, 0, 0, 0, 0, 0, 0, 0, 0] = AV.b8 32 [0, 0, 0, 0, 0, 0, 0, 0, 0, 0, 0, 0, 0, 0, 0, 0, 0, 0, 0, 0, 0, 0, 0, 0, 0, 0, 0, 0, 0, 0, 0, 0]) ∧ ((AV.b8 32 [0, 0, 0, 0, 0, 0, 0, 0, 0, 0, 0, 0, 0, 0, 0, 0, 0, 0, 0, 0, 0, 0, 0, 0, 0, 0, 0, 0, 0, 0, 0, 0] = AV.b8 32 [0, 0, 0, 0, 0, 0, 0, 0, 0, 0, 0, 0, 0, 0, 0, 0, 0, 0, 0, 0, 0, 0, 0, 0, 0, 0, 0, 0, 0, 0, 0, 0]) ∧ ((AV.b8 32 [0, 0, 0, 0, 0, 0, 0, 0, 0, 0, 0, 0, 0, 0, 0, 0, 0, 0, 0, 0, 0, 0, 0, 0, 0, 0, 0, 0, 0, 0, 0, 0] = AV.b8 32 [0, 0, 0, 0, 0, 0, 0, 0, 0, 0, 0, 0, 0, 0, 0, 0, 0, 0, 0, 0, 0, 0, 0, 0, 0, 0, 0, 0, 0, 0, 0, 0]) ∧ ((AV.b8 32 [0, 0, 0, 0, 0, 0, 0, 0, 0, 0, 0, 0, 0, 0, 0, 0, 0, 0, 0, 0, 0, 0, 0, 0, 0, 0, 0, 0, 0, 0, 0, 0] = AV.b8 32 [0, 0, 0, 0, 0, 0, 0, 0, 0, 0, 0, 0, 0, 0, 0, 0, 0, 0, 0, 0, 0, 0, 0, 0, 0, 0, 0, 0, 0, 0, 0, 0]) ∧ ((AV.bool false = AV.bool false) ∧ ((AV.b8 32 [0, 0, 0, 0, 0, 0, 0, 0, 0, 0, 0, 0, 0, 0, 0, 0, 0, 0, 0, 0, 0, 0, 0, 0, 0, 0, 0, 0, 0, 0, 0, 0] = AV.b8 32 [0, 0, 0, 0, 0, 0, 0, 0, 0, 0, 0, 0, 0, 0, 0, 0, 0, 0, 0, 0, 0, 0, 0, 0, 0, 0, 0, 0, 0, 0, 0, 0]) ∧ ((AV.bool false = AV.bool false) ∧ ((AV.b8 32 [0, 0, 0, 0, 0, 0, 0, 0, 0, 0, 0, 0, 0, 0, 0, 0, 0, 0, 0, 0, 0, 0, 0, 0, 0, 0, 0, 0, 0, 0, 0, 0] = AV.b8 32 [0, 0, 0, 0, 0, 0, 0, 0, 0, 0, 0, 0, 0, 0, 0, 0, 0, 0, 0, 0, 0, 0, 0, 0, 0, 0, 0, 0, 0, 0, 0, 0]) ∧ ((AV.bool false = AV.bool false) ∧ ((AV.vec true 32 [] = AV.vec true 32 []) ∧ ((AV.int .i64 0 = AV.int .i64 0) ∧ ((AV.str (Pat.Pat.base p) = AV.str (Pat.Pat.base p)) ∧ ((AV.bool x1 = AV.bool x1) ∧ ((x3 = x3) ∧ ((∀ w7 : Nat, (w7 < x3 → leR [AV.int .i64 (List.getD x2 w7 0)] [AV.int .i64 (List.getD x2 w7 0)])) ∧ ((x5 = x5) ∧ ((∀ w8 : Nat, (w8 < x5 → leR [AV.int .i64 (List.getD x4 w8 0)] [AV.int .i64 (List.getD x4 w8 0)])) ∧ ((x7 = x7) ∧ ((∀ w9 : Nat, (w9 < x7 → leR [AV.int .i64 (List.getD x6 w9 0)] [AV.int .i64 (List.getD x6 w9 0)])) ∧ ((x9 = x9) ∧ ((∀ w10 : Nat, (w10 < x9 → leR [AV.vecr false 1 (List.length (List.getD x8 w10 [])) (Pat.intF (List.getD x8 w10 []))] [AV.vecr false 1 (List.length (List.getD x8 w10 [])) (Pat.intF (List.getD x8 w10 []))])) ∧ ((AV.bool x10 = AV.bool (Shk.Sh.first (Hd.s (hdR p s b w0)))) ∧ ((AV.int .i64 x11 = AV.int .i64 (Shk.Sh.turn (Hd.s (hdR p s b w0)))) ∧ ((AV.bool x0 = AV.bool (Shk.Sh.dead (Hd.s (hdR p s b w0)))) ∧ ((AV.bool (Shk.Sh.sh s) = AV.bool (Shk.Sh.sh (Hd.s (hdR p s b w0)))) ∧ ((AV.b8 32 (Shk.Sh.ck s) = AV.b8 32 (Shk.Sh.ck (Hd.s (hdR p s b w0)))) ∧ ((AV.u64 (Shk.Sh.n s) = AV.u64 (Shk.Sh.n (Hd.s (hdR p s b w0)))) ∧ ((AV.b8 32 (Shk.Sh.ch s) = AV.b8 32 (Shk.Sh.ch (Hd.s (hdR p s b w0)))) ∧ ((AV.b8 32 (Shk.Sh.hs s) = AV.b8 32 (Shk.Sh.hs (Hd.s (hdR p s b w0)))) ∧ ((AV.b8 32 (Shk.Sh.own s) = AV.b8 32 (Shk.Sh.own (Hd.s (hdR p s b w0)))) ∧ ((AV.b8 32 (Shk.Sh.fr s) = AV.b8 32 (Shk.Sh.fr (Hd.s (hdR p s b w0)))) ∧ ((AV.bool (Shk.Sh.has s) = AV.bool (Shk.Sh.has (Hd.s (hdR p s b w0)))) ∧ ((AV.b8 32 (Shk.Sh.their s) = AV.b8 32 (Shk.Sh.their (Hd.s (hdR p s b w0)))) ∧ ((AV.bool (Shk.Sh.knows s) = AV.bool (Shk.Sh.knows (Hd.s (hdR p s b w0)))) ∧ ((AV.b8 32 (Shk.Sh.newest s) = AV.b8 32 (Shk.Sh.newest (Hd.s (hdR p s b w0)))) ∧ ((AV.bool (Shk.Sh.saw s) = AV.bool (Shk.Sh.saw (Hd.s (hdR p s b w0)))) ∧ ((x13 = List.length (Shk.Sh.psks (Hd.s (hdR p s b w0)))) ∧ ((∀ w11 : Nat, (w11 < (List.length (Shk.Sh.psks (Hd.s (hdR p s b w0)))) → leR [AV.b8 32 (List.getD x12 w11 [])] [AV.b8 32 (List.getD (Shk.Sh.psks (Hd.s (hdR p s b w0))) w11 [])])) ∧ ((AV.int .i64 x14 = AV.int .i64 (Shk.Sh.used (Hd.s (hdR p s b w0)))) ∧ ((([] : List UInt8) = []) ∧ cnd (fb || true)
 ((b = Hd.inn (hdR p s b w0)) ∧ ((AV.int .i64 0 = AV.int .i64 (Hd.e (hdR p s b w0))) ∧ True)))))))))))))))))))))))))))))))))))))))))))))))))))))))))))))))))))))))))))))))))))))))))) ∧ (∀ w12 : Nat, (Inv.upTo [AV.int .i64 x18] w12 → let hv : Shk.Sh := (Hd.s (hdR p s b w12))
 za (ltI ((w12 : Nat) : Int) x18)
 (cnd ((inB ((w12 : Nat) : Int) x17) && true)
 (za ((Hd.e (hdR p s b w12)) == 0)
 (za ((List.getD x16 (Int.toNat ((w12 : Nat) : Int)) 0) == 1)
 (za (ltI (((List.length (Hd.inn (hdR p s b w12))) : Nat) : Int) 32)
 (za ((Hd.e (hdR p s b w12)) == 0)
 (z17 p s fb b w12 (wr .i64 (((w12 : Nat) : Int) + 1)) (Hd.mk (Shk.Sh.mk hv.first hv.turn hv.dead hv.sh hv.ck hv.n hv.ch hv.hs hv.own hv.fr hv.has hv.their hv.knows hv.newest hv.saw hv.psks hv.used) [] (Hd.inn (hdR p s b w12)) 4))
 (za ((Hd.e (hdR p s b w12)) != 0)
 (z17 p s fb b w12 (wr .i64 (((w12 : Nat) : Int) + 1)) (Hd.mk (Shk.Sh.mk hv.first hv.turn hv.dead hv.sh hv.ck hv.n hv.ch hv.hs hv.own hv.fr hv.has hv.their hv.knows hv.newest hv.saw hv.psks hv.used) [] (Hd.inn (hdR p s b w12)) (Hd.e (hdR p s b w12))))
 (cnd (leB ((List.length hv.hs) + (List.length (x20 ++ (List.drop 0 hv.newest)))) 1000000)
 (za (ltI 0 (((List.length hv.psks) : Nat) : Int))
 (cnd ((leB (List.length hv.ch) 64) && (leB (List.length (x20 ++ (List.drop 0 hv.newest))) 100000))
 (z17 p s fb b w12 (wr .i64 (((w12 : Nat) : Int) + 1)) (Hd.mk (Shk.Sh.mk hv.first hv.turn hv.dead true (z23 hv.ch (x20 ++ (List.drop 0 hv.newest))) 0 (z25 hv.ch (x20 ++ (List.drop 0 hv.newest))) (Bla.sumS (hv.hs ++ (x20 ++ (List.drop 0 hv.newest)))) hv.own hv.fr hv.has hv.their hv.knows (x20 ++ (List.drop 0 hv.newest)) true hv.psks hv.used) [] (Hd.inn (hdR p s b w12)) (Hd.e (hdR p s b w12)))))
 (z17 p s fb b w12 (wr .i64 (((w12 : Nat) : Int) + 1)) (Hd.mk (Shk.Sh.mk hv.first hv.turn hv.dead hv.sh hv.ck hv.n hv.ch (Bla.sumS (hv.hs ++ (x20 ++ (List.drop 0 hv.newest)))) hv.own hv.fr hv.has hv.their hv.knows (x20 ++ (List.drop 0 hv.newest)) true hv.psks hv.used) [] (Hd.inn (hdR p s b w12)) (Hd.e (hdR p s b w12))))))))
 (cnd (true && (z19 Option.none (Option.some 32) (List.length (Hd.inn (hdR p s b w12)))))
 (cnd (true && (z19 (Option.some 32) Option.none (List.length (Hd.inn (hdR p s b w12)))))
 (za ((Hd.e (hdR p s b w12)) != 0)
 (z17 p s fb b w12 (wr .i64 (((w12 : Nat) : Int) + 1)) (Hd.mk (Shk.Sh.mk hv.first hv.turn hv.dead hv.sh hv.ck hv.n hv.ch hv.hs hv.own hv.fr hv.has hv.their hv.knows hv.newest hv.saw hv.psks hv.used) [] (zt (Option.some 32) Option.none (Hd.inn (hdR p s b w12))) (Hd.e (hdR p s b w12))))
 (cnd (leB ((List.length hv.hs) + (List.length ((List.take 32 (zt Option.none (Option.some 32) (Hd.inn (hdR p s b w12)))) ++ (List.drop (Min.min (List.length (zt Option.none (Option.some 32) (Hd.inn (hdR p s b w12)))) 32) hv.newest)))) 1000000)
 (za (ltI 0 (((List.length hv.psks) : Nat) : Int))
 (cnd ((leB (List.length hv.ch) 64) && (leB (List.length ((List.take 32 (zt Option.none (Option.some 32) (Hd.inn (hdR p s b w12)))) ++ (List.drop (Min.min (List.length (zt Option.none (Option.some 32) (Hd.inn (hdR p s b w12)))) 32) hv.newest))) 100000))
 (z17 p s fb b w12 (wr .i64 (((w12 : Nat) : Int) + 1)) (Hd.mk (Shk.Sh.mk hv.first hv.turn hv.dead true (z23 hv.ch ((List.take 32 (zt Option.none (Option.some 32) (Hd.inn (hdR p s b w12)))) ++ (List.drop (Min.min (List.length (zt Option.none (Option.some 32) (Hd.inn (hdR p s b w12)))) 32) hv.newest))) 0 (z25 hv.ch ((List.take 32 (zt Option.none (Option.some 32) (Hd.inn (hdR p s b w12)))) ++ (List.drop (Min.min (List.length (zt Option.none (Option.some 32) (Hd.inn (hdR p s b w12)))) 32) hv.newest))) (Bla.sumS (hv.hs ++ ((List.take 32 (zt Option.none (Option.some 32) (Hd.inn (hdR p s b w12)))) ++ (List.drop (Min.min (List.length (zt Option.none (Option.some 32) (Hd.inn (hdR p s b w12)))) 32) hv.newest)))) hv.own hv.fr hv.has hv.their hv.knows ((List.take 32 (zt Option.none (Option.some 32) (Hd.inn (hdR p s b w12)))) ++ (List.drop (Min.min (List.length (zt Option.none (Option.some 32) (Hd.inn (hdR p s b w12)))) 32) hv.newest)) true hv.psks hv.used) [] (zt (Option.some 32) Option.none (Hd.inn (hdR p s b w12))) (Hd.e (hdR p s b w12)))))
 (z17 p s fb b w12 (wr .i64 (((w12 : Nat) : Int) + 1)) (Hd.mk (Shk.Sh.mk hv.first hv.turn hv.dead hv.sh hv.ck hv.n hv.ch (Bla.sumS (hv.hs ++ ((List.take 32 (zt Option.none (Option.some 32) (Hd.inn (hdR p s b w12)))) ++ (List.drop (Min.min (List.length (zt Option.none (Option.some 32) (Hd.inn (hdR p s b w12)))) 32) hv.newest)))) hv.own hv.fr hv.has hv.their hv.knows ((List.take 32 (zt Option.none (Option.some 32) (Hd.inn (hdR p s b w12)))) ++ (List.drop (Min.min (List.length (zt Option.none (Option.some 32) (Hd.inn (hdR p s b w12)))) 32) hv.newest)) true hv.psks hv.used) [] (zt (Option.some 32) Option.none (Hd.inn (hdR p s b w12))) (Hd.e (hdR p s b w12))))))))))
 (za ((List.getD x16 (Int.toNat ((w12 : Nat) : Int)) 0) == 2)
 (za hv.sh
 (za (ltI (((List.length (Hd.inn (hdR p s b w12))) : Nat) : Int) 48)
 (za ((Hd.e (hdR p s b w12)) == 0)
 (z17 p s fb b w12 (wr .i64 (((w12 : Nat) : Int) + 1)) (Hd.mk (Shk.Sh.mk hv.first hv.turn hv.dead hv.sh hv.ck hv.n hv.ch hv.hs hv.own hv.fr hv.has hv.their hv.knows hv.newest hv.saw hv.psks hv.used) [] (Hd.inn (hdR p s b w12)) 4))
 (za ((Hd.e (hdR p s b w12)) != 0)
 (z17 p s fb b w12 (wr .i64 (((w12 : Nat) : Int) + 1)) (Hd.mk (Shk.Sh.mk hv.first hv.turn hv.dead hv.sh hv.ck hv.n hv.ch hv.hs hv.own hv.fr hv.has hv.their hv.knows hv.newest hv.saw hv.psks hv.used) [] (Hd.inn (hdR p s b w12)) (Hd.e (hdR p s b w12))))
 (cnd ((leB (List.length hv.hs) 200) && (true && (symK hv.sh hv.ck hv.n)))
 (za (z7v hv.sh hv.ck hv.n hv.hs [])
 (z17 p s fb b w12 (wr .i64 (((w12 : Nat) : Int) + 1)) (Hd.mk (Shk.Sh.mk hv.first hv.turn hv.dead hv.sh hv.ck (symN hv.sh hv.n) hv.ch (Bla.sumS (hv.hs ++ [])) hv.own hv.fr hv.has ((List.take 32 (z47 hv.sh hv.ck hv.n [])) ++ (List.drop (Min.min (List.length (z47 hv.sh hv.ck hv.n [])) 32) hv.their)) true hv.newest hv.saw hv.psks hv.used) [] (Hd.inn (hdR p s b w12)) (Hd.e (hdR p s b w12))))
 (za ((Hd.e (hdR p s b w12)) == 0)
 (z17 p s fb b w12 (wr .i64 (((w12 : Nat) : Int) + 1)) (Hd.mk (Shk.Sh.mk hv.first hv.turn hv.dead hv.sh hv.ck hv.n hv.ch hv.hs hv.own hv.fr hv.has (x20 ++ (List.drop 0 hv.their)) true hv.newest hv.saw hv.psks hv.used) [] (Hd.inn (hdR p s b w12)) 4))
 (z17 p s fb b w12 (wr .i64 (((w12 : Nat) : Int) + 1)) (Hd.mk (Shk.Sh.mk hv.first hv.turn hv.dead hv.sh hv.ck hv.n hv.ch hv.hs hv.own hv.fr hv.has (x20 ++ (List.drop 0 hv.their)) true hv.newest hv.saw hv.psks hv.used) [] (Hd.inn (hdR p s b w12)) (Hd.e (hdR p s b w12)))))))))
 (cnd (true && (z19 Option.none (Option.some 48) (List.length (Hd.inn (hdR p s b w12)))))
 (cnd (true && (z19 (Option.some 48) Option.none (List.length (Hd.inn (hdR p s b w12)))))
 (za ((Hd.e (hdR p s b w12)) != 0)
 (z17 p s fb b w12 (wr .i64 (((w12 : Nat) : Int) + 1)) (Hd.mk (Shk.Sh.mk hv.first hv.turn hv.dead hv.sh hv.ck hv.n hv.ch hv.hs hv.own hv.fr hv.has hv.their hv.knows hv.newest hv.saw hv.psks hv.used) [] (zt (Option.some 48) Option.none (Hd.inn (hdR p s b w12))) (Hd.e (hdR p s b w12))))
 (cnd ((leB (List.length hv.hs) 200) && ((leB (List.length (zt Option.none (Option.some 48) (Hd.inn (hdR p s b w12)))) 800) && (symK hv.sh hv.ck hv.n)))
 (za (z7v hv.sh hv.ck hv.n hv.hs (zt Option.none (Option.some 48) (Hd.inn (hdR p s b w12))))
 (z17 p s fb b w12 (wr .i64 (((w12 : Nat) : Int) + 1)) (Hd.mk (Shk.Sh.mk hv.first hv.turn hv.dead hv.sh hv.ck (symN hv.sh hv.n) hv.ch (Bla.sumS (hv.hs ++ (zt Option.none (Option.some 48) (Hd.inn (hdR p s b w12))))) hv.own hv.fr hv.has ((List.take 32 (z47 hv.sh hv.ck hv.n (zt Option.none (Option.some 48) (Hd.inn (hdR p s b w12))))) ++ (List.drop (Min.min (List.length (z47 hv.sh hv.ck hv.n (zt Option.none (Option.some 48) (Hd.inn (hdR p s b w12))))) 32) hv.their)) true hv.newest hv.saw hv.psks hv.used) [] (zt (Option.some 48) Option.none (Hd.inn (hdR p s b w12))) (Hd.e (hdR p s b w12))))
 (za ((cond (ltB (List.length (zt Option.none (Option.some 48) (Hd.inn (hdR p s b w12)))) 16) (4 : Int) 10) != 0)
 (za ((Hd.e (hdR p s b w12)) == 0)
 (z17 p s fb b w12 (wr .i64 (((w12 : Nat) : Int) + 1)) (Hd.mk (Shk.Sh.mk hv.first hv.turn hv.dead hv.sh hv.ck hv.n hv.ch hv.hs hv.own hv.fr hv.has (x20 ++ (List.drop 0 hv.their)) true hv.newest hv.saw hv.psks hv.used) [] (zt (Option.some 48) Option.none (Hd.inn (hdR p s b w12))) (cond (ltB (List.length (zt Option.none (Option.some 48) (Hd.inn (hdR p s b w12)))) 16) (4 : Int) 10)))
 (z17 p s fb b w12 (wr .i64 (((w12 : Nat) : Int) + 1)) (Hd.mk (Shk.Sh.mk hv.first hv.turn hv.dead hv.sh hv.ck hv.n hv.ch hv.hs hv.own hv.fr hv.has (x20 ++ (List.drop 0 hv.their)) true hv.newest hv.saw hv.psks hv.used) [] (zt (Option.some 48) Option.none (Hd.inn (hdR p s b w12))) (Hd.e (hdR p s b w12)))))
 (z17 p s fb b w12 (wr .i64 (((w12 : Nat) : Int) + 1)) (Hd.mk (Shk.Sh.mk hv.first hv.turn hv.dead false [0, 0, 0, 0, 0, 0, 0, 0, 0, 0, 0, 0, 0, 0, 0, 0, 0, 0, 0, 0, 0, 0, 0, 0, 0, 0, 0, 0, 0, 0, 0, 0] 0 [0, 0, 0, 0, 0, 0, 0, 0, 0, 0, 0, 0, 0, 0, 0, 0, 0, 0, 0, 0, 0, 0, 0, 0, 0, 0, 0, 0, 0, 0, 0, 0] [0, 0, 0, 0, 0, 0, 0, 0, 0, 0, 0, 0, 0, 0, 0, 0, 0, 0, 0, 0, 0, 0, 0, 0, 0, 0, 0, 0, 0, 0, 0, 0] hv.own hv.fr hv.has (x20 ++ (List.drop 0 hv.their)) true hv.newest hv.saw hv.psks hv.used) [] (zt (Option.some 48) Option.none (Hd.inn (hdR p s b w12))) (Hd.e (hdR p s b w12)))))))))))
 (za (ltI (((List.length (Hd.inn (hdR p s b w12))) : Nat) : Int) 32)
 (za ((Hd.e (hdR p s b w12)) == 0)
 (z17 p s fb b w12 (wr .i64 (((w12 : Nat) : Int) + 1)) (Hd.mk (Shk.Sh.mk hv.first hv.turn hv.dead hv.sh hv.ck hv.n hv.ch hv.hs hv.own hv.fr hv.has hv.their hv.knows hv.newest hv.saw hv.psks hv.used) [] (Hd.inn (hdR p s b w12)) 4))
 (za ((Hd.e (hdR p s b w12)) != 0)
 (z17 p s fb b w12 (wr .i64 (((w12 : Nat) : Int) + 1)) (Hd.mk (Shk.Sh.mk hv.first hv.turn hv.dead hv.sh hv.ck hv.n hv.ch hv.hs hv.own hv.fr hv.has hv.their hv.knows hv.newest hv.saw hv.psks hv.used) [] (Hd.inn (hdR p s b w12)) (Hd.e (hdR p s b w12))))
 (cnd ((leB (List.length hv.hs) 200) && (true && (symK hv.sh hv.ck hv.n)))
 (za (z7v hv.sh hv.ck hv.n hv.hs [])
 (z17 p s fb b w12 (wr .i64 (((w12 : Nat) : Int) + 1)) (Hd.mk (Shk.Sh.mk hv.first hv.turn hv.dead hv.sh hv.ck (symN hv.sh hv.n) hv.ch (Bla.sumS (hv.hs ++ [])) hv.own hv.fr hv.has ((List.take 32 (z47 hv.sh hv.ck hv.n [])) ++ (List.drop (Min.min (List.length (z47 hv.sh hv.ck hv.n [])) 32) hv.their)) true hv.newest hv.saw hv.psks hv.used) [] (Hd.inn (hdR p s b w12)) (Hd.e (hdR p s b w12))))
 (za ((Hd.e (hdR p s b w12)) == 0)
 (z17 p s fb b w12 (wr .i64 (((w12 : Nat) : Int) + 1)) (Hd.mk (Shk.Sh.mk hv.first hv.turn hv.dead hv.sh hv.ck hv.n hv.ch hv.hs hv.own hv.fr hv.has (x20 ++ (List.drop 0 hv.their)) true hv.newest hv.saw hv.psks hv.used) [] (Hd.inn (hdR p s b w12)) 4))
 (z17 p s fb b w12 (wr .i64 (((w12 : Nat) : Int) + 1)) (Hd.mk (Shk.Sh.mk hv.first hv.turn hv.dead hv.sh hv.ck hv.n hv.ch hv.hs hv.own hv.fr hv.has (x20 ++ (List.drop 0 hv.their)) true hv.newest hv.saw hv.psks hv.used) [] (Hd.inn (hdR p s b w12)) (Hd.e (hdR p s b w12)))))))))
 (cnd (true && (z19 Option.none (Option.some 32) (List.length (Hd.inn (hdR p s b w12)))))
 (cnd (true && (z19 (Option.some 32) Option.none (List.length (Hd.inn (hdR p s b w12)))))
 (za ((Hd.e (hdR p s b w12)) != 0)
 (z17 p s fb b w12 (wr .i64 (((w12 : Nat) : Int) + 1)) (Hd.mk (Shk.Sh.mk hv.first hv.turn hv.dead hv.sh hv.ck hv.n hv.ch hv.hs hv.own hv.fr hv.has hv.their hv.knows hv.newest hv.saw hv.psks hv.used) [] (zt (Option.some 32) Option.none (Hd.inn (hdR p s b w12))) (Hd.e (hdR p s b w12))))
 (cnd ((leB (List.length hv.hs) 200) && ((leB (List.length (zt Option.none (Option.some 32) (Hd.inn (hdR p s b w12)))) 800) && (symK hv.sh hv.ck hv.n)))
 (za (z7v hv.sh hv.ck hv.n hv.hs (zt Option.none (Option.some 32) (Hd.inn (hdR p s b w12))))
 (z17 p s fb b w12 (wr .i64 (((w12 : Nat) : Int) + 1)) (Hd.mk (Shk.Sh.mk hv.first hv.turn hv.dead hv.sh hv.ck (symN hv.sh hv.n) hv.ch (Bla.sumS (hv.hs ++ (zt Option.none (Option.some 32) (Hd.inn (hdR p s b w12))))) hv.own hv.fr hv.has ((List.take 32 (z47 hv.sh hv.ck hv.n (zt Option.none (Option.some 32) (Hd.inn (hdR p s b w12))))) ++ (List.drop (Min.min (List.length (z47 hv.sh hv.ck hv.n (zt Option.none (Option.some 32) (Hd.inn (hdR p s b w12))))) 32) hv.their)) true hv.newest hv.saw hv.psks hv.used) [] (zt (Option.some 32) Option.none (Hd.inn (hdR p s b w12))) (Hd.e (hdR p s b w12))))
 (za ((cond (ltB (List.length (zt Option.none (Option.some 32) (Hd.inn (hdR p s b w12)))) 16) (4 : Int) 10) != 0)
 (za ((Hd.e (hdR p s b w12)) == 0)
 (z17 p s fb b w12 (wr .i64 (((w12 : Nat) : Int) + 1)) (Hd.mk (Shk.Sh.mk hv.first hv.turn hv.dead hv.sh hv.ck hv.n hv.ch hv.hs hv.own hv.fr hv.has (x20 ++ (List.drop 0 hv.their)) true hv.newest hv.saw hv.psks hv.used) [] (zt (Option.some 32) Option.none (Hd.inn (hdR p s b w12))) (cond (ltB (List.length (zt Option.none (Option.some 32) (Hd.inn (hdR p s b w12)))) 16) (4 : Int) 10)))
 (z17 p s fb b w12 (wr .i64 (((w12 : Nat) : Int) + 1)) (Hd.mk (Shk.Sh.mk hv.first hv.turn hv.dead hv.sh hv.ck hv.n hv.ch hv.hs hv.own hv.fr hv.has (x20 ++ (List.drop 0 hv.their)) true hv.newest hv.saw hv.psks hv.used) [] (zt (Option.some 32) Option.none (Hd.inn (hdR p s b w12))) (Hd.e (hdR p s b w12)))))
 (z17 p s fb b w12 (wr .i64 (((w12 : Nat) : Int) + 1)) (Hd.mk (Shk.Sh.mk hv.first hv.turn hv.dead false [0, 0, 0, 0, 0, 0, 0, 0, 0, 0, 0, 0, 0, 0, 0, 0, 0, 0, 0, 0, 0, 0, 0, 0, 0, 0, 0, 0, 0, 0, 0, 0] 0 [0, 0, 0, 0, 0, 0, 0, 0, 0, 0, 0, 0, 0, 0, 0, 0, 0, 0, 0, 0, 0, 0, 0, 0, 0, 0, 0, 0, 0, 0, 0, 0] [0, 0, 0, 0, 0, 0, 0, 0, 0, 0, 0, 0, 0, 0, 0, 0, 0, 0, 0, 0, 0, 0, 0, 0, 0, 0, 0, 0, 0, 0, 0, 0] hv.own hv.fr hv.has (x20 ++ (List.drop 0 hv.their)) true hv.newest hv.saw hv.psks hv.used) [] (zt (Option.some 32) Option.none (Hd.inn (hdR p s b w12))) (Hd.e (hdR p s b w12))))))))))))
 (za ((List.getD x16 (Int.toNat ((w12 : Nat) : Int)) 0) == 3)
 (za (Bool.not hv.has)
 (za ((Hd.e (hdR p s b w12)) == 0)
 (z17 p s fb b w12 (wr .i64 (((w12 : Nat) : Int) + 1)) (Hd.mk (Shk.Sh.mk hv.first hv.turn hv.dead hv.sh hv.ck hv.n hv.ch hv.hs hv.own hv.fr hv.has hv.their hv.knows hv.newest hv.saw hv.psks hv.used) [] (Hd.inn (hdR p s b w12)) 5))
 (z17 p s fb b w12 (wr .i64 (((w12 : Nat) : Int) + 1)) (Hd.mk (Shk.Sh.mk hv.first hv.turn hv.dead hv.sh hv.ck hv.n hv.ch hv.hs hv.own hv.fr hv.has hv.their hv.knows hv.newest hv.saw hv.psks hv.used) [] (Hd.inn (hdR p s b w12)) (Hd.e (hdR p s b w12)))))
 (za (cond false true (Bool.not hv.saw))
 (za ((Hd.e (hdR p s b w12)) == 0)
 (z17 p s fb b w12 (wr .i64 (((w12 : Nat) : Int) + 1)) (Hd.mk (Shk.Sh.mk hv.first hv.turn hv.dead hv.sh hv.ck hv.n hv.ch hv.hs hv.own hv.fr hv.has hv.their hv.knows hv.newest hv.saw hv.psks hv.used) [] (Hd.inn (hdR p s b w12)) 5))
 (z17 p s fb b w12 (wr .i64 (((w12 : Nat) : Int) + 1)) (Hd.mk (Shk.Sh.mk hv.first hv.turn hv.dead hv.sh hv.ck hv.n hv.ch hv.hs hv.own hv.fr hv.has hv.their hv.knows hv.newest hv.saw hv.psks hv.used) [] (Hd.inn (hdR p s b w12)) (Hd.e (hdR p s b w12)))))
 (za (Bool.not (z3e hv.fr hv.newest))
 (za ((Hd.e (hdR p s b w12)) == 0)
 (z17 p s fb b w12 (wr .i64 (((w12 : Nat) : Int) + 1)) (Hd.mk (Shk.Sh.mk hv.first hv.turn hv.dead hv.sh hv.ck hv.n hv.ch hv.hs hv.own hv.fr hv.has hv.their hv.knows hv.newest hv.saw hv.psks hv.used) [] (Hd.inn (hdR p s b w12)) 12))
 (z17 p s fb b w12 (wr .i64 (((w12 : Nat) : Int) + 1)) (Hd.mk (Shk.Sh.mk hv.first hv.turn hv.dead hv.sh hv.ck hv.n hv.ch hv.hs hv.own hv.fr hv.has hv.their hv.knows hv.newest hv.saw hv.psks hv.used) [] (Hd.inn (hdR p s b w12)) (Hd.e (hdR p s b w12)))))
 (cnd ((leB (List.length hv.ch) 64) && (leB (List.length (dhS hv.fr hv.newest)) 100000))
 (z17 p s fb b w12 (wr .i64 (((w12 : Nat) : Int) + 1)) (Hd.mk (Shk.Sh.mk hv.first hv.turn hv.dead true (z23 hv.ch (dhS hv.fr hv.newest)) 0 (z25 hv.ch (dhS hv.fr hv.newest)) hv.hs hv.own hv.fr hv.has hv.their hv.knows hv.newest hv.saw hv.psks hv.used) [] (Hd.inn (hdR p s b w12)) (Hd.e (hdR p s b w12))))))))
 (za ((List.getD x16 (Int.toNat ((w12 : Nat) : Int)) 0) == 6)
 (za (cond false true (Bool.not hv.knows))
 (za ((Hd.e (hdR p s b w12)) == 0)
 (z17 p s fb b w12 (wr .i64 (((w12 : Nat) : Int) + 1)) (Hd.mk (Shk.Sh.mk hv.first hv.turn hv.dead hv.sh hv.ck hv.n hv.ch hv.hs hv.own hv.fr hv.has hv.their hv.knows hv.newest hv.saw hv.psks hv.used) [] (Hd.inn (hdR p s b w12)) 5))
 (z17 p s fb b w12 (wr .i64 (((w12 : Nat) : Int) + 1)) (Hd.mk (Shk.Sh.mk hv.first hv.turn hv.dead hv.sh hv.ck hv.n hv.ch hv.hs hv.own hv.fr hv.has hv.their hv.knows hv.newest hv.saw hv.psks hv.used) [] (Hd.inn (hdR p s b w12)) (Hd.e (hdR p s b w12)))))
 (za (Bool.not (z3e hv.own hv.their))
 (za ((Hd.e (hdR p s b w12)) == 0)
 (z17 p s fb b w12 (wr .i64 (((w12 : Nat) : Int) + 1)) (Hd.mk (Shk.Sh.mk hv.first hv.turn hv.dead hv.sh hv.ck hv.n hv.ch hv.hs hv.own hv.fr hv.has hv.their hv.knows hv.newest hv.saw hv.psks hv.used) [] (Hd.inn (hdR p s b w12)) 12))
 (z17 p s fb b w12 (wr .i64 (((w12 : Nat) : Int) + 1)) (Hd.mk (Shk.Sh.mk hv.first hv.turn hv.dead hv.sh hv.ck hv.n hv.ch hv.hs hv.own hv.fr hv.has hv.their hv.knows hv.newest hv.saw hv.psks hv.used) [] (Hd.inn (hdR p s b w12)) (Hd.e (hdR p s b w12)))))
 (cnd ((leB (List.length hv.ch) 64) && (leB (List.length (dhS hv.own hv.their)) 100000))
 (z17 p s fb b w12 (wr .i64 (((w12 : Nat) : Int) + 1)) (Hd.mk (Shk.Sh.mk hv.first hv.turn hv.dead true (z23 hv.ch (dhS hv.own hv.their)) 0 (z25 hv.ch (dhS hv.own hv.their)) hv.hs hv.own hv.fr hv.has hv.their hv.knows hv.newest hv.saw hv.psks hv.used) [] (Hd.inn (hdR p s b w12)) (Hd.e (hdR p s b w12)))))))
 (za ((List.getD x16 (Int.toNat ((w12 : Nat) : Int)) 0) == 7)
 (za (Bool.not (ltI hv.used (((List.length hv.psks) : Nat) : Int)))
 (za ((Hd.e (hdR p s b w12)) == 0)
 (z17 p s fb b w12 (wr .i64 (((w12 : Nat) : Int) + 1)) (Hd.mk (Shk.Sh.mk hv.first hv.turn hv.dead hv.sh hv.ck hv.n hv.ch hv.hs hv.own hv.fr hv.has hv.their hv.knows hv.newest hv.saw hv.psks hv.used) [] (Hd.inn (hdR p s b w12)) 5))
 (z17 p s fb b w12 (wr .i64 (((w12 : Nat) : Int) + 1)) (Hd.mk (Shk.Sh.mk hv.first hv.turn hv.dead hv.sh hv.ck hv.n hv.ch hv.hs hv.own hv.fr hv.has hv.their hv.knows hv.newest hv.saw hv.psks hv.used) [] (Hd.inn (hdR p s b w12)) (Hd.e (hdR p s b w12)))))
 (cnd ((inB hv.used (List.length hv.psks)) && true)
 (cnd ((leB (List.length hv.ch) 64) && ((leB (List.length (List.getD hv.psks (Int.toNat hv.used) [])) 100000) && (leB (List.length hv.hs) 64)))
 (z17 p s fb b w12 (wr .i64 (((w12 : Nat) : Int) + 1)) (Hd.mk (Shk.Sh.mk hv.first hv.turn hv.dead true (z9q hv.ch (List.getD hv.psks (Int.toNat hv.used) [])) 0 (z25 hv.ch (List.getD hv.psks (Int.toNat hv.used) [])) (Bla.sumS (hv.hs ++ (z23 hv.ch (List.getD hv.psks (Int.toNat hv.used) [])))) hv.own hv.fr hv.has hv.their hv.knows hv.newest hv.saw hv.psks (wr .i64 (hv.used + 1))) [] (Hd.inn (hdR p s b w12)) (Hd.e (hdR p s b w12)))))))
 (za (((List.getD x16 (Int.toNat ((w12 : Nat) : Int)) 0) == 4) == hv.first)
 (za (Bool.not hv.has)
 (za ((Hd.e (hdR p s b w12)) == 0)
 (z17 p s fb b w12 (wr .i64 (((w12 : Nat) : Int) + 1)) (Hd.mk (Shk.Sh.mk hv.first hv.turn hv.dead hv.sh hv.ck hv.n hv.ch hv.hs hv.own hv.fr hv.has hv.their hv.knows hv.newest hv.saw hv.psks hv.used) [] (Hd.inn (hdR p s b w12)) 5))
 (z17 p s fb b w12 (wr .i64 (((w12 : Nat) : Int) + 1)) (Hd.mk (Shk.Sh.mk hv.first hv.turn hv.dead hv.sh hv.ck hv.n hv.ch hv.hs hv.own hv.fr hv.has hv.their hv.knows hv.newest hv.saw hv.psks hv.used) [] (Hd.inn (hdR p s b w12)) (Hd.e (hdR p s b w12)))))
 (za (cond false true (Bool.not hv.knows))
 (za ((Hd.e (hdR p s b w12)) == 0)
 (z17 p s fb b w12 (wr .i64 (((w12 : Nat) : Int) + 1)) (Hd.mk (Shk.Sh.mk hv.first hv.turn hv.dead hv.sh hv.ck hv.n hv.ch hv.hs hv.own hv.fr hv.has hv.their hv.knows hv.newest hv.saw hv.psks hv.used) [] (Hd.inn (hdR p s b w12)) 5))
 (z17 p s fb b w12 (wr .i64 (((w12 : Nat) : Int) + 1)) (Hd.mk (Shk.Sh.mk hv.first hv.turn hv.dead hv.sh hv.ck hv.n hv.ch hv.hs hv.own hv.fr hv.has hv.their hv.knows hv.newest hv.saw hv.psks hv.used) [] (Hd.inn (hdR p s b w12)) (Hd.e (hdR p s b w12)))))
 (za (Bool.not (z3e hv.fr hv.their))
 (za ((Hd.e (hdR p s b w12)) == 0)
 (z17 p s fb b w12 (wr .i64 (((w12 : Nat) : Int) + 1)) (Hd.mk (Shk.Sh.mk hv.first hv.turn hv.dead hv.sh hv.ck hv.n hv.ch hv.hs hv.own hv.fr hv.has hv.their hv.knows hv.newest hv.saw hv.psks hv.used) [] (Hd.inn (hdR p s b w12)) 12))
 (z17 p s fb b w12 (wr .i64 (((w12 : Nat) : Int) + 1)) (Hd.mk (Shk.Sh.mk hv.first hv.turn hv.dead hv.sh hv.ck hv.n hv.ch hv.hs hv.own hv.fr hv.has hv.their hv.knows hv.newest hv.saw hv.psks hv.used) [] (Hd.inn (hdR p s b w12)) (Hd.e (hdR p s b w12)))))
 (cnd ((leB (List.length hv.ch) 64) && (leB (List.length (dhS hv.fr hv.their)) 100000))
 (z17 p s fb b w12 (wr .i64 (((w12 : Nat) : Int) + 1)) (Hd.mk (Shk.Sh.mk hv.first hv.turn hv.dead true (z23 hv.ch (dhS hv.fr hv.their)) 0 (z25 hv.ch (dhS hv.fr hv.their)) hv.hs hv.own hv.fr hv.has hv.their hv.knows hv.newest hv.saw hv.psks hv.used) [] (Hd.inn (hdR p s b w12)) (Hd.e (hdR p s b w12))))))))
 (za (cond false true (Bool.not hv.saw))
 (za ((Hd.e (hdR p s b w12)) == 0)
 (z17 p s fb b w12 (wr .i64 (((w12 : Nat) : Int) + 1)) (Hd.mk (Shk.Sh.mk hv.first hv.turn hv.dead hv.sh hv.ck hv.n hv.ch hv.hs hv.own hv.fr hv.has hv.their hv.knows hv.newest hv.saw hv.psks hv.used) [] (Hd.inn (hdR p s b w12)) 5))
 (z17 p s fb b w12 (wr .i64 (((w12 : Nat) : Int) + 1)) (Hd.mk (Shk.Sh.mk hv.first hv.turn hv.dead hv.sh hv.ck hv.n hv.ch hv.hs hv.own hv.fr hv.has hv.their hv.knows hv.newest hv.saw hv.psks hv.used) [] (Hd.inn (hdR p s b w12)) (Hd.e (hdR p s b w12)))))
 (za (Bool.not (z3e hv.own hv.newest))
 (za ((Hd.e (hdR p s b w12)) == 0)
 (z17 p s fb b w12 (wr .i64 (((w12 : Nat) : Int) + 1)) (Hd.mk (Shk.Sh.mk hv.first hv.turn hv.dead hv.sh hv.ck hv.n hv.ch hv.hs hv.own hv.fr hv.has hv.their hv.knows hv.newest hv.saw hv.psks hv.used) [] (Hd.inn (hdR p s b w12)) 12))
 (z17 p s fb b w12 (wr .i64 (((w12 : Nat) : Int) + 1)) (Hd.mk (Shk.Sh.mk hv.first hv.turn hv.dead hv.sh hv.ck hv.n hv.ch hv.hs hv.own hv.fr hv.has hv.their hv.knows hv.newest hv.saw hv.psks hv.used) [] (Hd.inn (hdR p s b w12)) (Hd.e (hdR p s b w12)))))
 (cnd ((leB (List.length hv.ch) 64) && (leB (List.length (dhS hv.own hv.newest)) 100000))
 (z17 p s fb b w12 (wr .i64 (((w12 : Nat) : Int) + 1)) (Hd.mk (Shk.Sh.mk hv.first hv.turn hv.dead true (z23 hv.ch (dhS hv.own hv.newest)) 0 (z25 hv.ch (dhS hv.own hv.newest)) hv.hs hv.own hv.fr hv.has hv.their hv.knows hv.newest hv.saw hv.psks hv.used) [] (Hd.inn (hdR p s b w12)) (Hd.e (hdR p s b w12)))))))))))))
 (z17 p s fb b w12 (wr .i64 (((w12 : Nat) : Int) + 1)) (Hd.mk (Shk.Sh.mk hv.first hv.turn hv.dead hv.sh hv.ck hv.n hv.ch hv.hs hv.own hv.fr hv.has hv.their hv.knows hv.newest hv.saw hv.psks hv.used) [] (Hd.inn (hdR p s b w12)) (Hd.e (hdR p s b w12))))))
 (za ((Hd.e (hdR p s b w12)) == 0)
 (cnd ((leB (List.length hv.hs) 200) && ((leB (List.length (Hd.inn (hdR p s b w12))) 800) && (symK hv.sh hv.ck hv.n)))
 (za (z7v hv.sh hv.ck hv.n hv.hs (Hd.inn (hdR p s b w12)))
 (za ((Hd.e (hdR p s b w12)) != 0)
 (cnd (Shk.isSh x21)
 (K (AV.tup [AV.agg x21, AV.vec8 true [], AV.int .i64 (Hd.e (hdR p s b w12))]) []))
 (cnd (Shk.isSh [AV.str (Pat.Pat.base p), AV.bool x1, AV.vecr false 1 x3 (Pat.intF x2), AV.vecr false 1 x5 (Pat.intF x4), AV.vecr false 1 x7 (Pat.intF x6), AV.vecr false 1 x9 (Pat.trF x8), AV.bool hv.first, AV.int .i64 (wr .i64 (hv.turn + 1)), AV.bool hv.dead, AV.bool hv.sh, AV.b8 32 hv.ck, AV.u64 (symN hv.sh hv.n), AV.b8 32 hv.ch, AV.b8 32 (Bla.sumS (hv.hs ++ (Hd.inn (hdR p s b w12)))), AV.b8 32 hv.own, AV.b8 32 hv.fr, AV.bool hv.has, AV.b8 32 hv.their, AV.bool hv.knows, AV.b8 32 hv.newest, AV.bool hv.saw, AV.vecr false 32 (List.length hv.psks) (Shk.keyF hv.psks), AV.int .i64 hv.used])
 (K (AV.tup [AV.agg [AV.str (Pat.Pat.base p), AV.bool x1, AV.vecr false 1 x3 (Pat.intF x2), AV.vecr false 1 x5 (Pat.intF x4), AV.vecr false 1 x7 (Pat.intF x6), AV.vecr false 1 x9 (Pat.trF x8), AV.bool hv.first, AV.int .i64 (wr .i64 (hv.turn + 1)), AV.bool hv.dead, AV.bool hv.sh, AV.b8 32 hv.ck, AV.u64 (symN hv.sh hv.n), AV.b8 32 hv.ch, AV.b8 32 (Bla.sumS (hv.hs ++ (Hd.inn (hdR p s b w12)))), AV.b8 32 hv.own, AV.b8 32 hv.fr, AV.bool hv.has, AV.b8 32 hv.their, AV.bool hv.knows, AV.b8 32 hv.newest, AV.bool hv.saw, AV.vecr false 32 (List.length hv.psks) (Shk.keyF hv.psks), AV.int .i64 hv.used], AV.vec8 false (z47 hv.sh hv.ck hv.n (Hd.inn (hdR p s b w12))), AV.int .i64 0]) [])))
 (za ((cond (ltB (List.length (Hd.inn (hdR p s b w12))) 16) (4 : Int) 10) != 0)
 (za ((Hd.e (hdR p s b w12)) == 0)
 (za ((cond (ltB (List.length (Hd.inn (hdR p s b w12))) 16) (4 : Int) 10) != 0)
 (cnd (Shk.isSh x21)
 (K (AV.tup [AV.agg x21, AV.vec8 true [], AV.int .i64 (cond (ltB (List.length (Hd.inn (hdR p s b w12))) 16) (4 : Int) 10)]) []))
 (cnd (Shk.isSh [AV.str (Pat.Pat.base p), AV.bool x1, AV.vecr false 1 x3 (Pat.intF x2), AV.vecr false 1 x5 (Pat.intF x4), AV.vecr false 1 x7 (Pat.intF x6), AV.vecr false 1 x9 (Pat.trF x8), AV.bool hv.first, AV.int .i64 (wr .i64 (hv.turn + 1)), AV.bool hv.dead, AV.bool hv.sh, AV.b8 32 hv.ck, AV.u64 hv.n, AV.b8 32 hv.ch, AV.b8 32 hv.hs, AV.b8 32 hv.own, AV.b8 32 hv.fr, AV.bool hv.has, AV.b8 32 hv.their, AV.bool hv.knows, AV.b8 32 hv.newest, AV.bool hv.saw, AV.vecr false 32 (List.length hv.psks) (Shk.keyF hv.psks), AV.int .i64 hv.used])
 (K (AV.tup [AV.agg [AV.str (Pat.Pat.base p), AV.bool x1, AV.vecr false 1 x3 (Pat.intF x2), AV.vecr false 1 x5 (Pat.intF x4), AV.vecr false 1 x7 (Pat.intF x6), AV.vecr false 1 x9 (Pat.trF x8), AV.bool hv.first, AV.int .i64 (wr .i64 (hv.turn + 1)), AV.bool hv.dead, AV.bool hv.sh, AV.b8 32 hv.ck, AV.u64 hv.n, AV.b8 32 hv.ch, AV.b8 32 hv.hs, AV.b8 32 hv.own, AV.b8 32 hv.fr, AV.bool hv.has, AV.b8 32 hv.their, AV.bool hv.knows, AV.b8 32 hv.newest, AV.bool hv.saw, AV.vecr false 32 (List.length hv.psks) (Shk.keyF hv.psks), AV.int .i64 hv.used], AV.vec8 true [], AV.int .i64 0]) [])))
 (za ((Hd.e (hdR p s b w12)) != 0)
 (cnd (Shk.isSh x21)
 (K (AV.tup [AV.agg x21, AV.vec8 true [], AV.int .i64 (Hd.e (hdR p s b w12))]) []))
 (cnd (Shk.isSh [AV.str (Pat.Pat.base p), AV.bool x1, AV.vecr false 1 x3 (Pat.intF x2), AV.vecr false 1 x5 (Pat.intF x4), AV.vecr false 1 x7 (Pat.intF x6), AV.vecr false 1 x9 (Pat.trF x8), AV.bool hv.first, AV.int .i64 (wr .i64 (hv.turn + 1)), AV.bool hv.dead, AV.bool hv.sh, AV.b8 32 hv.ck, AV.u64 hv.n, AV.b8 32 hv.ch, AV.b8 32 hv.hs, AV.b8 32 hv.own, AV.b8 32 hv.fr, AV.bool hv.has, AV.b8 32 hv.their, AV.bool hv.knows, AV.b8 32 hv.newest, AV.bool hv.saw, AV.vecr false 32 (List.length hv.psks) (Shk.keyF hv.psks), AV.int .i64 hv.used])
 (K (AV.tup [AV.agg [AV.str (Pat.Pat.base p), AV.bool x1, AV.vecr false 1 x3 (Pat.intF x2), AV.vecr false 1 x5 (Pat.intF x4), AV.vecr false 1 x7 (Pat.intF x6), AV.vecr false 1 x9 (Pat.trF x8), AV.bool hv.first, AV.int .i64 (wr .i64 (hv.turn + 1)), AV.bool hv.dead, AV.bool hv.sh, AV.b8 32 hv.ck, AV.u64 hv.n, AV.b8 32 hv.ch, AV.b8 32 hv.hs, AV.b8 32 hv.own, AV.b8 32 hv.fr, AV.bool hv.has, AV.b8 32 hv.their, AV.bool hv.knows, AV.b8 32 hv.newest, AV.bool hv.saw, AV.vecr false 32 (List.length hv.psks) (Shk.keyF hv.psks), AV.int .i64 hv.used], AV.vec8 true [], AV.int .i64 0]) []))))
 (za ((Hd.e (hdR p s b w12)) != 0)
 (cnd (Shk.isSh x21)
 (K (AV.tup [AV.agg x21, AV.vec8 true [], AV.int .i64 (Hd.e (hdR p s b w12))]) []))
 (cnd (Shk.isSh [AV.str (Pat.Pat.base p), AV.bool x1, AV.vecr false 1 x3 (Pat.intF x2), AV.vecr false 1 x5 (Pat.intF x4), AV.vecr false 1 x7 (Pat.intF x6), AV.vecr false 1 x9 (Pat.trF x8), AV.bool hv.first, AV.int .i64 (wr .i64 (hv.turn + 1)), AV.bool hv.dead, AV.bool false, AV.b8 32 [0, 0, 0, 0, 0, 0, 0, 0, 0, 0, 0, 0, 0, 0, 0, 0, 0, 0, 0, 0, 0, 0, 0, 0, 0, 0, 0, 0, 0, 0, 0, 0], AV.u64 0, AV.b8 32 [0, 0, 0, 0, 0, 0, 0, 0, 0, 0, 0, 0, 0, 0, 0, 0, 0, 0, 0, 0, 0, 0, 0, 0, 0, 0, 0, 0, 0, 0, 0, 0], AV.b8 32 [0, 0, 0, 0, 0, 0, 0, 0, 0, 0, 0, 0, 0, 0, 0, 0, 0, 0, 0, 0, 0, 0, 0, 0, 0, 0, 0, 0, 0, 0, 0, 0], AV.b8 32 hv.own, AV.b8 32 hv.fr, AV.bool hv.has, AV.b8 32 hv.their, AV.bool hv.knows, AV.b8 32 hv.newest, AV.bool hv.saw, AV.vecr false 32 (List.length hv.psks) (Shk.keyF hv.psks), AV.int .i64 hv.used])
 (K (AV.tup [AV.agg [AV.str (Pat.Pat.base p), AV.bool x1, AV.vecr false 1 x3 (Pat.intF x2), AV.vecr false 1 x5 (Pat.intF x4), AV.vecr false 1 x7 (Pat.intF x6), AV.vecr false 1 x9 (Pat.trF x8), AV.bool hv.first, AV.int .i64 (wr .i64 (hv.turn + 1)), AV.bool hv.dead, AV.bool false, AV.b8 32 [0, 0, 0, 0, 0, 0, 0, 0, 0, 0, 0, 0, 0, 0, 0, 0, 0, 0, 0, 0, 0, 0, 0, 0, 0, 0, 0, 0, 0, 0, 0, 0], AV.u64 0, AV.b8 32 [0, 0, 0, 0, 0, 0, 0, 0, 0, 0, 0, 0, 0, 0, 0, 0, 0, 0, 0, 0, 0, 0, 0, 0, 0, 0, 0, 0, 0, 0, 0, 0], AV.b8 32 [0, 0, 0, 0, 0, 0, 0, 0, 0, 0, 0, 0, 0, 0, 0, 0, 0, 0, 0, 0, 0, 0, 0, 0, 0, 0, 0, 0, 0, 0, 0, 0], AV.b8 32 hv.own, AV.b8 32 hv.fr, AV.bool hv.has, AV.b8 32 hv.their, AV.bool hv.knows, AV.b8 32 hv.newest, AV.bool hv.saw, AV.vecr false 32 (List.length hv.psks) (Shk.keyF hv.psks), AV.int .i64 hv.used], AV.vec8 true [], AV.int .i64 0]) []))))))
 (za ((Hd.e (hdR p s b w12)) != 0)
 (cnd (Shk.isSh x21)
 (K (AV.tup [AV.agg x21, AV.vec8 true [], AV.int .i64 (Hd.e (hdR p s b w12))]) []))
 (cnd (Shk.isSh [AV.str (Pat.Pat.base p), AV.bool x1, AV.vecr false 1 x3 (Pat.intF x2), AV.vecr false 1 x5 (Pat.intF x4), AV.vecr false 1 x7 (Pat.intF x6), AV.vecr false 1 x9 (Pat.trF x8), AV.bool hv.first, AV.int .i64 (wr .i64 (hv.turn + 1)), AV.bool hv.dead, AV.bool hv.sh, AV.b8 32 hv.ck, AV.u64 hv.n, AV.b8 32 hv.ch, AV.b8 32 hv.hs, AV.b8 32 hv.own, AV.b8 32 hv.fr, AV.bool hv.has, AV.b8 32 hv.their, AV.bool hv.knows, AV.b8 32 hv.newest, AV.bool hv.saw, AV.vecr false 32 (List.length hv.psks) (Shk.keyF hv.psks), AV.int .i64 hv.used])
 (K (AV.tup [AV.agg [AV.str (Pat.Pat.base p), AV.bool x1, AV.vecr false 1 x3 (Pat.intF x2), AV.vecr false 1 x5 (Pat.intF x4), AV.vecr false 1 x7 (Pat.intF x6), AV.vecr false 1 x9 (Pat.trF x8), AV.bool hv.first, AV.int .i64 (wr .i64 (hv.turn + 1)), AV.bool hv.dead, AV.bool hv.sh, AV.b8 32 hv.ck, AV.u64 hv.n, AV.b8 32 hv.ch, AV.b8 32 hv.hs, AV.b8 32 hv.own, AV.b8 32 hv.fr, AV.bool hv.has, AV.b8 32 hv.their, AV.bool hv.knows, AV.b8 32 hv.newest, AV.bool hv.saw, AV.vecr false 32 (List.length hv.psks) (Shk.keyF hv.psks), AV.int .i64 hv.used], AV.vec8 true [], AV.int .i64 0]) []))))))))))))))) := by kernel_rfl
theorem z6n (p : Pat) (s : Sh) (fb : Bool) (sec b : List UInt8) (K : AV → zc → Prop) : walk Tryz.E RSh KQ.C (z14d p s sec) 6 8 [shV p s, .b8 32 sec, .vec8 fb b] K = (
 let x0 : Bool := Shk.Sh.dead s
 let x1 : Bool := (Pat.Pat.late p)
 let x2 : List Int := (Pat.Pat.psks p)
 let x3 : Nat := (List.length x2)
 let x4 : List Int := (Pat.Pat.pre0 p)
 let x5 : Nat := (List.length x4)
 let x6 : List Int := (Pat.Pat.pre1 p)
 let x7 : Nat := (List.length x6)
 let x8 : List (List Int) := (Pat.Pat.turns p)
 let x9 : Nat := (List.length x8)
 let x10 : Bool := (Shk.Sh.first s)
 let x11 : Int := (Shk.Sh.turn s)
 let x12 : List (List UInt8) := (Shk.Sh.psks s)
 let x13 : Nat := (List.length x12)
 let x14 : Int := (Shk.Sh.used s)
 let x15 : List AV := [AV.str (Pat.Pat.base p), AV.bool x1, AV.vecr false 1 x3 (Pat.intF x2), AV.vecr false 1 x5 (Pat.intF x4), AV.vecr false 1 x7 (Pat.intF x6), AV.vecr false 1 x9 (Pat.trF x8), AV.bool x10, AV.int .i64 x11, AV.bool x0, AV.bool (Shk.Sh.sh s), AV.b8 32 (Shk.Sh.ck s), AV.u64 (Shk.Sh.n s), AV.b8 32 (Shk.Sh.ch s), AV.b8 32 (Shk.Sh.hs s), AV.b8 32 (Shk.Sh.own s), AV.b8 32 (Shk.Sh.fr s), AV.bool (Shk.Sh.has s), AV.b8 32 (Shk.Sh.their s), AV.bool (Shk.Sh.knows s), AV.b8 32 (Shk.Sh.newest s), AV.bool (Shk.Sh.saw s), AV.vecr false 32 x13 (Shk.keyF x12), AV.int .i64 x14]
 let x16 : Nat := (List.length b)
 let x17 : List Int := (List.getD x8 (Int.toNat x11) [])
 let x18 : Nat := (List.length x17)
 let x19 : Int := ((x18 : Nat) : Int)
 let x20 : Bool := fb || (Bool.not fb)
 let x21 : Nat := (List.length (zz sec))
 let x22 : Nat := 140737488355328
 let x23 : List AV := [AV.str (Pat.Pat.base p), AV.bool x1, AV.vecr false 1 x3 (Pat.intF x2), AV.vecr false 1 x5 (Pat.intF x4), AV.vecr false 1 x7 (Pat.intF x6), AV.vecr false 1 x9 (Pat.trF x8), AV.bool x10, AV.int .i64 x11, AV.bool true, AV.bool (Shk.Sh.sh s), AV.b8 32 (Shk.Sh.ck s), AV.u64 (Shk.Sh.n s), AV.b8 32 (Shk.Sh.ch s), AV.b8 32 (Shk.Sh.hs s), AV.b8 32 (Shk.Sh.own s), AV.b8 32 (Shk.Sh.fr s), AV.bool (Shk.Sh.has s), AV.b8 32 (Shk.Sh.their s), AV.bool (Shk.Sh.knows s), AV.b8 32 (Shk.Sh.newest s), AV.bool (Shk.Sh.saw s), AV.vecr false 32 x13 (Shk.keyF x12), AV.int .i64 x14]
 za (x0)
 (cnd (Shk.isSh x15)
 (K (AV.tup [AV.agg x15, AV.vec8 true [], AV.int .i64 9]) []))
 (za (cond false true (ltI x11 0))
 (cnd (Shk.isSh x15)
 (K (AV.tup [AV.agg x15, AV.vec8 true [], AV.int .i64 9]) []))
 (za (cond false true (Bool.not (ltI x11 ((x9 : Nat) : Int))))
 (cnd (Shk.isSh x15)
 (K (AV.tup [AV.agg x15, AV.vec8 true [], AV.int .i64 9]) []))
 (za (cond false true ((((Int.tmod x11 2) == 0) == (x10 != x1)) != true))
 (cnd (Shk.isSh x15)
 (K (AV.tup [AV.agg x15, AV.vec8 true [], AV.int .i64 9]) []))
 (cnd (Shk.isP [AV.str (Pat.Pat.base p), AV.bool x1, AV.vecr false 1 x3 (Pat.intF x2), AV.vecr false 1 x5 (Pat.intF x4), AV.vecr false 1 x7 (Pat.intF x6), AV.vecr false 1 x9 (Pat.trF x8)])
 (za (cond false true (ltI x14 0))
 (cnd (Shk.isSh x15)
 (K (AV.tup [AV.agg x15, AV.vec8 true [], AV.int .i64 9]) []))
 (za (ltI 400 ((x16 : Nat) : Int))
 (cnd (Shk.isSh x15)
 (K (AV.tup [AV.agg x15, AV.vec8 true [], AV.int .i64 1]) []))
 (cnd ((inB x11 x9) && true)
 ((∃ w0 : Nat, (Inv.upTo [AV.int .i64 x19] w0) ∧ cnd (x20)
 ((b = b) ∧ ((([] : List UInt8) = []) ∧ ((AV.int .i64 0 = AV.int .i64 0) ∧ ((x18 = x18) ∧ ((∀ w1 : Nat, (w1 < x18 → leR [AV.int .i64 (List.getD x17 w1 0)] [AV.int .i64 (List.getD x17 w1 0)])) ∧ ((AV.int .i64 x19 = AV.int .i64 x19) ∧ ((AV.int .i64 0 = AV.int .i64 ((w0 : Nat) : Int)) ∧ ((AV.str (Pat.Pat.base p) = AV.str (Pat.Pat.base p)) ∧ ((AV.bool x1 = AV.bool x1) ∧ ((x3 = x3) ∧ ((∀ w2 : Nat, (w2 < x3 → leR [AV.int .i64 (List.getD x2 w2 0)] [AV.int .i64 (List.getD x2 w2 0)])) ∧ ((x5 = x5) ∧ ((∀ w3 : Nat, (w3 < x5 → leR [AV.int .i64 (List.getD x4 w3 0)] [AV.int .i64 (List.getD x4 w3 0)])) ∧ ((x7 = x7) ∧ ((∀ w4 : Nat, (w4 < x7 → leR [AV.int .i64 (List.getD x6 w4 0)] [AV.int .i64 (List.getD x6 w4 0)])) ∧ ((x9 = x9) ∧ ((∀ w5 : Nat, (w5 < x9 → leR [AV.vecr false 1 (List.length (List.getD x8 w5 [])) (Pat.intF (List.getD x8 w5 []))] [AV.vecr false 1 (List.length (List.getD x8 w5 [])) (Pat.intF (List.getD x8 w5 []))])) ∧ ((AV.bool x10 = AV.bool x10) ∧ ((AV.int .i64 x11 = AV.int .i64 x11) ∧ ((AV.bool x0 = AV.bool x0) ∧ ((AV.bool (Shk.Sh.sh s) = AV.bool (Shk.Sh.sh s)) ∧ ((AV.b8 32 (Shk.Sh.ck s) = AV.b8 32 (Shk.Sh.ck s)) ∧ ((AV.u64 (Shk.Sh.n s) = AV.u64 (Shk.Sh.n s)) ∧ ((AV.b8 32 (Shk.Sh.ch s) = AV.b8 32 (Shk.Sh.ch s)) ∧ ((AV.b8 32 (Shk.Sh.hs s) = AV.b8 32 (Shk.Sh.hs s)) ∧ ((AV.b8 32 (Shk.Sh.own s) = AV.b8 32 (Shk.Sh.own s)) ∧ ((AV.b8 32 (Shk.Sh.fr s) = AV.b8 32 (Shk.Sh.fr s)) ∧ ((AV.bool (Shk.Sh.has s) = AV.bool (Shk.Sh.has s)) ∧ ((AV.b8 32 (Shk.Sh.their s) = AV.b8 32 (Shk.Sh.their s)) ∧ ((AV.bool (Shk.Sh.knows s) = AV.bool (Shk.Sh.knows s)) ∧ ((AV.b8 32 (Shk.Sh.newest s) = AV.b8 32 (Shk.Sh.newest s)) ∧ ((AV.bool (Shk.Sh.saw s) = AV.bool (Shk.Sh.saw s)) ∧ ((x13 = x13) ∧ ((∀ w6 : Nat, (w6 < x13 → leR [AV.b8 32 (List.getD x12 w6 [])] [AV.b8 32 (List.getD x12 w6 [])])) ∧ ((AV.int .i64 x14 = AV.int .i64 x14) ∧ ((AV.b8 32 sec = AV.b8 32 sec) ∧ ((AV.str [] = AV.str []) ∧ ((AV.bool false = AV.bool false) ∧ ((AV.vec true 1 [] = AV.vec true 1 []) ∧ ((AV.vec true 1 [] = AV.vec true 1 []) ∧ ((AV.vec true 1 [] = AV.vec true 1 []) ∧ ((AV.vec true 1 [] = AV.vec true 1 []) ∧ ((AV.bool false = AV.bool false) ∧ ((AV.int .i64 0 = AV.int .i64 0) ∧ ((AV.bool false = AV.bool false) ∧ ((AV.bool false = AV.bool false) ∧ ((AV.b8 32 [0, 0, 0, 0, 0, 0, 0, 0, 0, 0, 0, 0, 0, 0, 0, 0, 0, 0, 0, 0, 0, 0, 0, 0, 0, 0, 0, 0, 0, 0, 0, 0] = AV.b8 32 [0, 0, 0, 0, 0, 0, 0, 0, 0, 0, 0, 0, 0, 0, 0, 0, 0, 0, 0, 0, 0, 0, 0, 0, 0, 0, 0, 0, 0, 0, 0, 0]) ∧ ((AV.u64 0 = AV.u64 0) ∧ ((AV.b8 32 [0, 0, 0, 0, 0, 0, 0, 0, 0, 0, 0, 0, 0, 0, 0, 0, 0, 0, 0, 0, 0, 0, 0, 0, 0, 0, 0, 0, 0, 0, 0, 0] = AV.b8 32 [0, 0, 0, 0, 0, 0, 0, 0, 0, 0, 0, 0, 0, 0, 0, 0, 0, 0, 0, 0, 0, 0, 0, 0, 0, 0, 0, 0, 0, 0, 0, 0]) ∧ ((AV.b8 32 [0, 0, 0, 0, 0, 0, 0, 0, 0, 0, 0, 0, 0, 0, 0, 0, 0, 0, 0, 0, 0, 0, 0, 0, 0, 0, 0, 0, 0, 0, 0, 0] = AV.b8 32 [0, 0, 0, 0, 0, 0, 0, 0, 0, 0, 0, 0, 0, 0, 0, 0, 0, 0, 0, 0, 0, 0, 0, 0, 0, 0, 0, 0, 0, 0, 0, 0]) ∧ ((AV.b8 32 [0, 0, 0, 0, 0, 0, 0, 0, 0, 0, 0, 0, 0, 0, 0, 0, 0, 0, 0, 0, 0, 0, 0, 0, 0, 0, 0, 0, 0, 0, 0, 0] = AV.b8 32 [0, 0, 0, 0, 0, 0, 0, 0, 0, 0, 0, 0, 0, 0, 0, 0, 0, 0, 0, 0, 0, 0, 0, 0, 0, 0, 0, 0, 0, 0, 0, 0]) ∧ ((AV.b8 32 [0, 0, 0, 0, 0, 0, 0, 0, 0, 0, 0, 0, 0, 0, 0, 0, 0, 0, 0, 0, 0, 0, 0, 0, 0, 0, 0, 0, 0, 0, 0, 0] = AV.b8 32 [0, 0, 0, 0, 0, 0, 0, 0, 0, 0, 0, 0, 0, 0, 0, 0, 0, 0, 0, 0, 0, 0, 0, 0, 0, 0, 0, 0, 0, 0, 0, 0]) ∧ ((AV.bool false = AV.bool false) ∧ ((AV.b8 32 [0, 0, 0, 0, 0, 0, 0, 0, 0, 0, 0, 0, 0, 0, 0, 0, 0, 0, 0, 0, 0, 0, 0, 0, 0, 0, 0, 0, 0, 0, 0, 0] = AV.b8 32 [0, 0, 0, 0, 0, 0, 0, 0, 0, 0, 0, 0, 0, 0, 0, 0, 0, 0, 0, 0, 0, 0, 0, 0, 0, 0, 0, 0, 0, 0, 0, 0]) ∧ ((AV.bool false = AV.bool false) ∧ ((AV.b8 32 [0, 0, 0, 0, 0, 0, 0, 0, 0, 0, 0, 0, 0, 0, 0, 0, 0, 0, 0, 0, 0, 0, 0, 0, 0, 0, 0, 0, 0, 0, 0, 0] = AV.b8 32 [0, 0, 0, 0, 0, 0, 0, 0, 0, 0, 0, 0, 0, 0, 0, 0, 0, 0, 0, 0, 0, 0, 0, 0, 0, 0, 0, 0, 0, 0, 0, 0]) ∧ ((AV.bool false = AV.bool false) ∧ ((AV.vec true 32 [] = AV.vec true 32 []) ∧ ((AV.int .i64 0 = AV.int .i64 0) ∧ ((AV.str (Pat.Pat.base p) = AV.str (Pat.Pat.base p)) ∧ ((AV.bool x1 = AV.bool x1) ∧ ((x3 = x3) ∧ ((∀ w7 : Nat, (w7 < x3 → leR [AV.int .i64 (List.getD x2 w7 0)] [AV.int .i64 (List.getD x2 w7 0)])) ∧ ((x5 = x5) ∧ ((∀ w8 : Nat, (w8 < x5 → leR [AV.int .i64 (List.getD x4 w8 0)] [AV.int .i64 (List.getD x4 w8 0)])) ∧ ((x7 = x7) ∧ ((∀ w9 : Nat, (w9 < x7 → leR [AV.int .i64 (List.getD x6 w9 0)] [AV.int .i64 (List.getD x6 w9 0)])) ∧ ((x9 = x9) ∧ ((∀ w10 : Nat, (w10 < x9 → leR [AV.vecr false 1 (List.length (List.getD x8 w10 [])) (Pat.intF (List.getD x8 w10 []))] [AV.vecr false 1 (List.length (List.getD x8 w10 [])) (Pat.intF (List.getD x8 w10 []))])) ∧ ((AV.bool x10 = AV.bool (Shk.Sh.first (Hd.s (hdW p s sec w0)))) ∧ ((AV.int .i64 x11 = AV.int .i64 (Shk.Sh.turn (Hd.s (hdW p s sec w0)))) ∧ ((AV.bool x0 = AV.bool (Shk.Sh.dead (Hd.s (hdW p s sec w0)))) ∧ ((AV.bool (Shk.Sh.sh s) = AV.bool (Shk.Sh.sh (Hd.s (hdW p s sec w0)))) ∧ ((AV.b8 32 (Shk.Sh.ck s) = AV.b8 32 (Shk.Sh.ck (Hd.s (hdW p s sec w0)))) ∧ ((AV.u64 (Shk.Sh.n s) = AV.u64 (Shk.Sh.n (Hd.s (hdW p s sec w0)))) ∧ ((AV.b8 32 (Shk.Sh.ch s) = AV.b8 32 (Shk.Sh.ch (Hd.s (hdW p s sec w0)))) ∧ ((AV.b8 32 (Shk.Sh.hs s) = AV.b8 32 (Shk.Sh.hs (Hd.s (hdW p s sec w0)))) ∧ ((AV.b8 32 (Shk.Sh.own s) = AV.b8 32 (Shk.Sh.own (Hd.s (hdW p s sec w0)))) ∧ ((AV.b8 32 (Shk.Sh.fr s) = AV.b8 32 (Shk.Sh.fr (Hd.s (hdW p s sec w0)))) ∧ ((AV.bool (Shk.Sh.has s) = AV.bool (Shk.Sh.has (Hd.s (hdW p s sec w0)))) ∧ ((AV.b8 32 (Shk.Sh.their s) = AV.b8 32 (Shk.Sh.their (Hd.s (hdW p s sec w0)))) ∧ ((AV.bool (Shk.Sh.knows s) = AV.bool (Shk.Sh.knows (Hd.s (hdW p s sec w0)))) ∧ ((AV.b8 32 (Shk.Sh.newest s) = AV.b8 32 (Shk.Sh.newest (Hd.s (hdW p s sec w0)))) ∧ ((AV.bool (Shk.Sh.saw s) = AV.bool (Shk.Sh.saw (Hd.s (hdW p s sec w0)))) ∧ ((x13 = List.length (Shk.Sh.psks (Hd.s (hdW p s sec w0)))) ∧ ((∀ w11 : Nat, (w11 < (List.length (Shk.Sh.psks (Hd.s (hdW p s sec w0)))) → leR [AV.b8 32 (List.getD x12 w11 [])] [AV.b8 32 (List.getD (Shk.Sh.psks (Hd.s (hdW p s sec w0))) w11 [])])) ∧ ((AV.int .i64 x14 = AV.int .i64 (Shk.Sh.used (Hd.s (hdW p s sec w0)))) ∧ ((0 = List.length (Hd.out (hdW p s sec w0))) ∧ ((([] : List UInt8) = []) ∧ ((AV.int .i64 0 = AV.int .i64 (Hd.e (hdW p s sec w0))) ∧ cnd (zit (Ent.grow8 (Hd.out (hdW p s sec w0)) []))
 (True)))))))))))))))))))))))))))))))))))))))))))))))))))))))))))))))))))))))))))))))))))))))))))) ∧ (∀ w12 : Nat, (Inv.upTo [AV.int .i64 x19] w12 → let hv : Shk.Sh := (Hd.s (hdW p s sec w12))
 za (ltI ((w12 : Nat) : Int) x19)
 (cnd ((inB ((w12 : Nat) : Int) x18) && true)
 (za ((Hd.e (hdW p s sec w12)) == 0)
 (za ((List.getD x17 (Int.toNat ((w12 : Nat) : Int)) 0) == 1)
 (cnd ((List.length (Hd.out (hdW p s sec w12))) == (List.length (Hd.out (hdW p s sec w12))))
 (cnd (leB (((List.length (Hd.out (hdW p s sec w12))) + x21) * 1) x22)
 (cnd (leB ((List.length hv.hs) + x21) 1000000)
 (za (ltI 0 (((List.length hv.psks) : Nat) : Int))
 (cnd ((leB (List.length hv.ch) 64) && (leB x21 100000))
 (z1t p s fb sec b w12 (wr .i64 (((w12 : Nat) : Int) + 1)) ((List.length (Hd.out (hdW p s sec w12))) + x21) (Hd.mk (Shk.Sh.mk hv.first hv.turn hv.dead true (z23 hv.ch (zz sec)) 0 (z25 hv.ch (zz sec)) (Bla.sumS (hv.hs ++ (zz sec))) hv.own sec true hv.their hv.knows hv.newest hv.saw hv.psks hv.used) ((Hd.out (hdW p s sec w12)) ++ (zz sec)) [] (Hd.e (hdW p s sec w12)))))
 (z1t p s fb sec b w12 (wr .i64 (((w12 : Nat) : Int) + 1)) ((List.length (Hd.out (hdW p s sec w12))) + x21) (Hd.mk (Shk.Sh.mk hv.first hv.turn hv.dead hv.sh hv.ck hv.n hv.ch (Bla.sumS (hv.hs ++ (zz sec))) hv.own sec true hv.their hv.knows hv.newest hv.saw hv.psks hv.used) ((Hd.out (hdW p s sec w12)) ++ (zz sec)) [] (Hd.e (hdW p s sec w12))))))))
 (za ((List.getD x17 (Int.toNat ((w12 : Nat) : Int)) 0) == 2)
 (cnd ((leB (List.length hv.hs) 200) && ((leB (List.length (zz hv.own)) 800) && (symK hv.sh hv.ck hv.n)))
 (cnd (true && (leB (0 + (List.length (z2b hv.sh hv.ck hv.n hv.hs (zz hv.own)))) (List.length (z2b hv.sh hv.ck hv.n hv.hs (zz hv.own)))))
 (cnd ((List.length (Hd.out (hdW p s sec w12))) == (List.length (Hd.out (hdW p s sec w12))))
 (cnd (leB (((List.length (Hd.out (hdW p s sec w12))) + (List.length (List.take (List.length (z2b hv.sh hv.ck hv.n hv.hs (zz hv.own))) (List.drop 0 (z2b hv.sh hv.ck hv.n hv.hs (zz hv.own)))))) * 1) x22)
 (z1t p s fb sec b w12 (wr .i64 (((w12 : Nat) : Int) + 1)) ((List.length (Hd.out (hdW p s sec w12))) + (List.length (List.take (List.length (z2b hv.sh hv.ck hv.n hv.hs (zz hv.own))) (List.drop 0 (z2b hv.sh hv.ck hv.n hv.hs (zz hv.own)))))) (Hd.mk (Shk.Sh.mk hv.first hv.turn hv.dead hv.sh hv.ck (symN hv.sh hv.n) hv.ch (Bla.sumS (hv.hs ++ (z2b hv.sh hv.ck hv.n hv.hs (zz hv.own)))) hv.own hv.fr hv.has hv.their hv.knows hv.newest hv.saw hv.psks hv.used) ((Hd.out (hdW p s sec w12)) ++ (List.take (List.length (z2b hv.sh hv.ck hv.n hv.hs (zz hv.own))) (List.drop 0 (z2b hv.sh hv.ck hv.n hv.hs (zz hv.own))))) [] (Hd.e (hdW p s sec w12))))))))
 (za ((List.getD x17 (Int.toNat ((w12 : Nat) : Int)) 0) == 3)
 (za (Bool.not hv.has)
 (za ((Hd.e (hdW p s sec w12)) == 0)
 (z1t p s fb sec b w12 (wr .i64 (((w12 : Nat) : Int) + 1)) (List.length (Hd.out (hdW p s sec w12))) (Hd.mk (Shk.Sh.mk hv.first hv.turn hv.dead hv.sh hv.ck hv.n hv.ch hv.hs hv.own hv.fr hv.has hv.their hv.knows hv.newest hv.saw hv.psks hv.used) (Hd.out (hdW p s sec w12)) [] 5))
 (z1t p s fb sec b w12 (wr .i64 (((w12 : Nat) : Int) + 1)) (List.length (Hd.out (hdW p s sec w12))) (Hd.mk (Shk.Sh.mk hv.first hv.turn hv.dead hv.sh hv.ck hv.n hv.ch hv.hs hv.own hv.fr hv.has hv.their hv.knows hv.newest hv.saw hv.psks hv.used) (Hd.out (hdW p s sec w12)) [] (Hd.e (hdW p s sec w12)))))
 (za (cond false true (Bool.not hv.saw))
 (za ((Hd.e (hdW p s sec w12)) == 0)
 (z1t p s fb sec b w12 (wr .i64 (((w12 : Nat) : Int) + 1)) (List.length (Hd.out (hdW p s sec w12))) (Hd.mk (Shk.Sh.mk hv.first hv.turn hv.dead hv.sh hv.ck hv.n hv.ch hv.hs hv.own hv.fr hv.has hv.their hv.knows hv.newest hv.saw hv.psks hv.used) (Hd.out (hdW p s sec w12)) [] 5))
 (z1t p s fb sec b w12 (wr .i64 (((w12 : Nat) : Int) + 1)) (List.length (Hd.out (hdW p s sec w12))) (Hd.mk (Shk.Sh.mk hv.first hv.turn hv.dead hv.sh hv.ck hv.n hv.ch hv.hs hv.own hv.fr hv.has hv.their hv.knows hv.newest hv.saw hv.psks hv.used) (Hd.out (hdW p s sec w12)) [] (Hd.e (hdW p s sec w12)))))
 (za (Bool.not (z3e hv.fr hv.newest))
 (za ((Hd.e (hdW p s sec w12)) == 0)
 (z1t p s fb sec b w12 (wr .i64 (((w12 : Nat) : Int) + 1)) (List.length (Hd.out (hdW p s sec w12))) (Hd.mk (Shk.Sh.mk hv.first hv.turn hv.dead hv.sh hv.ck hv.n hv.ch hv.hs hv.own hv.fr hv.has hv.their hv.knows hv.newest hv.saw hv.psks hv.used) (Hd.out (hdW p s sec w12)) [] 12))
 (z1t p s fb sec b w12 (wr .i64 (((w12 : Nat) : Int) + 1)) (List.length (Hd.out (hdW p s sec w12))) (Hd.mk (Shk.Sh.mk hv.first hv.turn hv.dead hv.sh hv.ck hv.n hv.ch hv.hs hv.own hv.fr hv.has hv.their hv.knows hv.newest hv.saw hv.psks hv.used) (Hd.out (hdW p s sec w12)) [] (Hd.e (hdW p s sec w12)))))
 (cnd ((leB (List.length hv.ch) 64) && (leB (List.length (dhS hv.fr hv.newest)) 100000))
 (z1t p s fb sec b w12 (wr .i64 (((w12 : Nat) : Int) + 1)) (List.length (Hd.out (hdW p s sec w12))) (Hd.mk (Shk.Sh.mk hv.first hv.turn hv.dead true (z23 hv.ch (dhS hv.fr hv.newest)) 0 (z25 hv.ch (dhS hv.fr hv.newest)) hv.hs hv.own hv.fr hv.has hv.their hv.knows hv.newest hv.saw hv.psks hv.used) (Hd.out (hdW p s sec w12)) [] (Hd.e (hdW p s sec w12))))))))
 (za ((List.getD x17 (Int.toNat ((w12 : Nat) : Int)) 0) == 6)
 (za (cond false true (Bool.not hv.knows))
 (za ((Hd.e (hdW p s sec w12)) == 0)
 (z1t p s fb sec b w12 (wr .i64 (((w12 : Nat) : Int) + 1)) (List.length (Hd.out (hdW p s sec w12))) (Hd.mk (Shk.Sh.mk hv.first hv.turn hv.dead hv.sh hv.ck hv.n hv.ch hv.hs hv.own hv.fr hv.has hv.their hv.knows hv.newest hv.saw hv.psks hv.used) (Hd.out (hdW p s sec w12)) [] 5))
 (z1t p s fb sec b w12 (wr .i64 (((w12 : Nat) : Int) + 1)) (List.length (Hd.out (hdW p s sec w12))) (Hd.mk (Shk.Sh.mk hv.first hv.turn hv.dead hv.sh hv.ck hv.n hv.ch hv.hs hv.own hv.fr hv.has hv.their hv.knows hv.newest hv.saw hv.psks hv.used) (Hd.out (hdW p s sec w12)) [] (Hd.e (hdW p s sec w12)))))
 (za (Bool.not (z3e hv.own hv.their))
 (za ((Hd.e (hdW p s sec w12)) == 0)
 (z1t p s fb sec b w12 (wr .i64 (((w12 : Nat) : Int) + 1)) (List.length (Hd.out (hdW p s sec w12))) (Hd.mk (Shk.Sh.mk hv.first hv.turn hv.dead hv.sh hv.ck hv.n hv.ch hv.hs hv.own hv.fr hv.has hv.their hv.knows hv.newest hv.saw hv.psks hv.used) (Hd.out (hdW p s sec w12)) [] 12))
 (z1t p s fb sec b w12 (wr .i64 (((w12 : Nat) : Int) + 1)) (List.length (Hd.out (hdW p s sec w12))) (Hd.mk (Shk.Sh.mk hv.first hv.turn hv.dead hv.sh hv.ck hv.n hv.ch hv.hs hv.own hv.fr hv.has hv.their hv.knows hv.newest hv.saw hv.psks hv.used) (Hd.out (hdW p s sec w12)) [] (Hd.e (hdW p s sec w12)))))
 (cnd ((leB (List.length hv.ch) 64) && (leB (List.length (dhS hv.own hv.their)) 100000))
 (z1t p s fb sec b w12 (wr .i64 (((w12 : Nat) : Int) + 1)) (List.length (Hd.out (hdW p s sec w12))) (Hd.mk (Shk.Sh.mk hv.first hv.turn hv.dead true (z23 hv.ch (dhS hv.own hv.their)) 0 (z25 hv.ch (dhS hv.own hv.their)) hv.hs hv.own hv.fr hv.has hv.their hv.knows hv.newest hv.saw hv.psks hv.used) (Hd.out (hdW p s sec w12)) [] (Hd.e (hdW p s sec w12)))))))
 (za ((List.getD x17 (Int.toNat ((w12 : Nat) : Int)) 0) == 7)
 (za (Bool.not (ltI hv.used (((List.length hv.psks) : Nat) : Int)))
 (za ((Hd.e (hdW p s sec w12)) == 0)
 (z1t p s fb sec b w12 (wr .i64 (((w12 : Nat) : Int) + 1)) (List.length (Hd.out (hdW p s sec w12))) (Hd.mk (Shk.Sh.mk hv.first hv.turn hv.dead hv.sh hv.ck hv.n hv.ch hv.hs hv.own hv.fr hv.has hv.their hv.knows hv.newest hv.saw hv.psks hv.used) (Hd.out (hdW p s sec w12)) [] 5))
 (z1t p s fb sec b w12 (wr .i64 (((w12 : Nat) : Int) + 1)) (List.length (Hd.out (hdW p s sec w12))) (Hd.mk (Shk.Sh.mk hv.first hv.turn hv.dead hv.sh hv.ck hv.n hv.ch hv.hs hv.own hv.fr hv.has hv.their hv.knows hv.newest hv.saw hv.psks hv.used) (Hd.out (hdW p s sec w12)) [] (Hd.e (hdW p s sec w12)))))
 (cnd ((inB hv.used (List.length hv.psks)) && true)
 (cnd ((leB (List.length hv.ch) 64) && ((leB (List.length (List.getD hv.psks (Int.toNat hv.used) [])) 100000) && (leB (List.length hv.hs) 64)))
 (z1t p s fb sec b w12 (wr .i64 (((w12 : Nat) : Int) + 1)) (List.length (Hd.out (hdW p s sec w12))) (Hd.mk (Shk.Sh.mk hv.first hv.turn hv.dead true (z9q hv.ch (List.getD hv.psks (Int.toNat hv.used) [])) 0 (z25 hv.ch (List.getD hv.psks (Int.toNat hv.used) [])) (Bla.sumS (hv.hs ++ (z23 hv.ch (List.getD hv.psks (Int.toNat hv.used) [])))) hv.own hv.fr hv.has hv.their hv.knows hv.newest hv.saw hv.psks (wr .i64 (hv.used + 1))) (Hd.out (hdW p s sec w12)) [] (Hd.e (hdW p s sec w12)))))))
 (za (((List.getD x17 (Int.toNat ((w12 : Nat) : Int)) 0) == 4) == hv.first)
 (za (Bool.not hv.has)
 (za ((Hd.e (hdW p s sec w12)) == 0)
 (z1t p s fb sec b w12 (wr .i64 (((w12 : Nat) : Int) + 1)) (List.length (Hd.out (hdW p s sec w12))) (Hd.mk (Shk.Sh.mk hv.first hv.turn hv.dead hv.sh hv.ck hv.n hv.ch hv.hs hv.own hv.fr hv.has hv.their hv.knows hv.newest hv.saw hv.psks hv.used) (Hd.out (hdW p s sec w12)) [] 5))
 (z1t p s fb sec b w12 (wr .i64 (((w12 : Nat) : Int) + 1)) (List.length (Hd.out (hdW p s sec w12))) (Hd.mk (Shk.Sh.mk hv.first hv.turn hv.dead hv.sh hv.ck hv.n hv.ch hv.hs hv.own hv.fr hv.has hv.their hv.knows hv.newest hv.saw hv.psks hv.used) (Hd.out (hdW p s sec w12)) [] (Hd.e (hdW p s sec w12)))))
 (za (cond false true (Bool.not hv.knows))
 (za ((Hd.e (hdW p s sec w12)) == 0)
 (z1t p s fb sec b w12 (wr .i64 (((w12 : Nat) : Int) + 1)) (List.length (Hd.out (hdW p s sec w12))) (Hd.mk (Shk.Sh.mk hv.first hv.turn hv.dead hv.sh hv.ck hv.n hv.ch hv.hs hv.own hv.fr hv.has hv.their hv.knows hv.newest hv.saw hv.psks hv.used) (Hd.out (hdW p s sec w12)) [] 5))
 (z1t p s fb sec b w12 (wr .i64 (((w12 : Nat) : Int) + 1)) (List.length (Hd.out (hdW p s sec w12))) (Hd.mk (Shk.Sh.mk hv.first hv.turn hv.dead hv.sh hv.ck hv.n hv.ch hv.hs hv.own hv.fr hv.has hv.their hv.knows hv.newest hv.saw hv.psks hv.used) (Hd.out (hdW p s sec w12)) [] (Hd.e (hdW p s sec w12)))))
 (za (Bool.not (z3e hv.fr hv.their))
 (za ((Hd.e (hdW p s sec w12)) == 0)
 (z1t p s fb sec b w12 (wr .i64 (((w12 : Nat) : Int) + 1)) (List.length (Hd.out (hdW p s sec w12))) (Hd.mk (Shk.Sh.mk hv.first hv.turn hv.dead hv.sh hv.ck hv.n hv.ch hv.hs hv.own hv.fr hv.has hv.their hv.knows hv.newest hv.saw hv.psks hv.used) (Hd.out (hdW p s sec w12)) [] 12))
 (z1t p s fb sec b w12 (wr .i64 (((w12 : Nat) : Int) + 1)) (List.length (Hd.out (hdW p s sec w12))) (Hd.mk (Shk.Sh.mk hv.first hv.turn hv.dead hv.sh hv.ck hv.n hv.ch hv.hs hv.own hv.fr hv.has hv.their hv.knows hv.newest hv.saw hv.psks hv.used) (Hd.out (hdW p s sec w12)) [] (Hd.e (hdW p s sec w12)))))
 (cnd ((leB (List.length hv.ch) 64) && (leB (List.length (dhS hv.fr hv.their)) 100000))
 (z1t p s fb sec b w12 (wr .i64 (((w12 : Nat) : Int) + 1)) (List.length (Hd.out (hdW p s sec w12))) (Hd.mk (Shk.Sh.mk hv.first hv.turn hv.dead true (z23 hv.ch (dhS hv.fr hv.their)) 0 (z25 hv.ch (dhS hv.fr hv.their)) hv.hs hv.own hv.fr hv.has hv.their hv.knows hv.newest hv.saw hv.psks hv.used) (Hd.out (hdW p s sec w12)) [] (Hd.e (hdW p s sec w12))))))))
 (za (cond false true (Bool.not hv.saw))
 (za ((Hd.e (hdW p s sec w12)) == 0)
 (z1t p s fb sec b w12 (wr .i64 (((w12 : Nat) : Int) + 1)) (List.length (Hd.out (hdW p s sec w12))) (Hd.mk (Shk.Sh.mk hv.first hv.turn hv.dead hv.sh hv.ck hv.n hv.ch hv.hs hv.own hv.fr hv.has hv.their hv.knows hv.newest hv.saw hv.psks hv.used) (Hd.out (hdW p s sec w12)) [] 5))
 (z1t p s fb sec b w12 (wr .i64 (((w12 : Nat) : Int) + 1)) (List.length (Hd.out (hdW p s sec w12))) (Hd.mk (Shk.Sh.mk hv.first hv.turn hv.dead hv.sh hv.ck hv.n hv.ch hv.hs hv.own hv.fr hv.has hv.their hv.knows hv.newest hv.saw hv.psks hv.used) (Hd.out (hdW p s sec w12)) [] (Hd.e (hdW p s sec w12)))))
 (za (Bool.not (z3e hv.own hv.newest))
 (za ((Hd.e (hdW p s sec w12)) == 0)
 (z1t p s fb sec b w12 (wr .i64 (((w12 : Nat) : Int) + 1)) (List.length (Hd.out (hdW p s sec w12))) (Hd.mk (Shk.Sh.mk hv.first hv.turn hv.dead hv.sh hv.ck hv.n hv.ch hv.hs hv.own hv.fr hv.has hv.their hv.knows hv.newest hv.saw hv.psks hv.used) (Hd.out (hdW p s sec w12)) [] 12))
 (z1t p s fb sec b w12 (wr .i64 (((w12 : Nat) : Int) + 1)) (List.length (Hd.out (hdW p s sec w12))) (Hd.mk (Shk.Sh.mk hv.first hv.turn hv.dead hv.sh hv.ck hv.n hv.ch hv.hs hv.own hv.fr hv.has hv.their hv.knows hv.newest hv.saw hv.psks hv.used) (Hd.out (hdW p s sec w12)) [] (Hd.e (hdW p s sec w12)))))
 (cnd ((leB (List.length hv.ch) 64) && (leB (List.length (dhS hv.own hv.newest)) 100000))
 (z1t p s fb sec b w12 (wr .i64 (((w12 : Nat) : Int) + 1)) (List.length (Hd.out (hdW p s sec w12))) (Hd.mk (Shk.Sh.mk hv.first hv.turn hv.dead true (z23 hv.ch (dhS hv.own hv.newest)) 0 (z25 hv.ch (dhS hv.own hv.newest)) hv.hs hv.own hv.fr hv.has hv.their hv.knows hv.newest hv.saw hv.psks hv.used) (Hd.out (hdW p s sec w12)) [] (Hd.e (hdW p s sec w12)))))))))))))
 (z1t p s fb sec b w12 (wr .i64 (((w12 : Nat) : Int) + 1)) (List.length (Hd.out (hdW p s sec w12))) (Hd.mk (Shk.Sh.mk hv.first hv.turn hv.dead hv.sh hv.ck hv.n hv.ch hv.hs hv.own hv.fr hv.has hv.their hv.knows hv.newest hv.saw hv.psks hv.used) (Hd.out (hdW p s sec w12)) [] (Hd.e (hdW p s sec w12))))))
 (za ((Hd.e (hdW p s sec w12)) == 0)
 (cnd ((leB (List.length hv.hs) 200) && ((leB x16 800) && (symK hv.sh hv.ck hv.n)))
 (cnd (true && (leB (0 + (List.length (z2b hv.sh hv.ck hv.n hv.hs b))) (List.length (z2b hv.sh hv.ck hv.n hv.hs b))))
 (cnd ((List.length (Hd.out (hdW p s sec w12))) == (List.length (Hd.out (hdW p s sec w12))))
 (cnd (leB (((List.length (Hd.out (hdW p s sec w12))) + (List.length (List.take (List.length (z2b hv.sh hv.ck hv.n hv.hs b)) (List.drop 0 (z2b hv.sh hv.ck hv.n hv.hs b))))) * 1) x22)
 (za ((Hd.e (hdW p s sec w12)) != 0)
 (cnd (Shk.isSh x23)
 (K (AV.tup [AV.agg x23, AV.vec8 true [], AV.int .i64 (Hd.e (hdW p s sec w12))]) []))
 (cnd (Shk.isSh [AV.str (Pat.Pat.base p), AV.bool x1, AV.vecr false 1 x3 (Pat.intF x2), AV.vecr false 1 x5 (Pat.intF x4), AV.vecr false 1 x7 (Pat.intF x6), AV.vecr false 1 x9 (Pat.trF x8), AV.bool hv.first, AV.int .i64 (wr .i64 (hv.turn + 1)), AV.bool hv.dead, AV.bool hv.sh, AV.b8 32 hv.ck, AV.u64 (symN hv.sh hv.n), AV.b8 32 hv.ch, AV.b8 32 (Bla.sumS (hv.hs ++ (z2b hv.sh hv.ck hv.n hv.hs b))), AV.b8 32 hv.own, AV.b8 32 hv.fr, AV.bool hv.has, AV.b8 32 hv.their, AV.bool hv.knows, AV.b8 32 hv.newest, AV.bool hv.saw, AV.vecr false 32 (List.length hv.psks) (Shk.keyF hv.psks), AV.int .i64 hv.used])
 (K (AV.tup [AV.agg [AV.str (Pat.Pat.base p), AV.bool x1, AV.vecr false 1 x3 (Pat.intF x2), AV.vecr false 1 x5 (Pat.intF x4), AV.vecr false 1 x7 (Pat.intF x6), AV.vecr false 1 x9 (Pat.trF x8), AV.bool hv.first, AV.int .i64 (wr .i64 (hv.turn + 1)), AV.bool hv.dead, AV.bool hv.sh, AV.b8 32 hv.ck, AV.u64 (symN hv.sh hv.n), AV.b8 32 hv.ch, AV.b8 32 (Bla.sumS (hv.hs ++ (z2b hv.sh hv.ck hv.n hv.hs b))), AV.b8 32 hv.own, AV.b8 32 hv.fr, AV.bool hv.has, AV.b8 32 hv.their, AV.bool hv.knows, AV.b8 32 hv.newest, AV.bool hv.saw, AV.vecr false 32 (List.length hv.psks) (Shk.keyF hv.psks), AV.int .i64 hv.used], AV.sl 0 0 1 ((List.length (Hd.out (hdW p s sec w12))) + (List.length (List.take (List.length (z2b hv.sh hv.ck hv.n hv.hs b)) (List.drop 0 (z2b hv.sh hv.ck hv.n hv.hs b))))), AV.int .i64 0]) [Ent.grow8 ((Hd.out (hdW p s sec w12)) ++ (List.take (List.length (z2b hv.sh hv.ck hv.n hv.hs b)) (List.drop 0 (z2b hv.sh hv.ck hv.n hv.hs b)))) []])))))))
 (za ((Hd.e (hdW p s sec w12)) != 0)
 (cnd (Shk.isSh x23)
 (K (AV.tup [AV.agg x23, AV.vec8 true [], AV.int .i64 (Hd.e (hdW p s sec w12))]) []))
 (cnd (Shk.isSh [AV.str (Pat.Pat.base p), AV.bool x1, AV.vecr false 1 x3 (Pat.intF x2), AV.vecr false 1 x5 (Pat.intF x4), AV.vecr false 1 x7 (Pat.intF x6), AV.vecr false 1 x9 (Pat.trF x8), AV.bool hv.first, AV.int .i64 (wr .i64 (hv.turn + 1)), AV.bool hv.dead, AV.bool hv.sh, AV.b8 32 hv.ck, AV.u64 hv.n, AV.b8 32 hv.ch, AV.b8 32 hv.hs, AV.b8 32 hv.own, AV.b8 32 hv.fr, AV.bool hv.has, AV.b8 32 hv.their, AV.bool hv.knows, AV.b8 32 hv.newest, AV.bool hv.saw, AV.vecr false 32 (List.length hv.psks) (Shk.keyF hv.psks), AV.int .i64 hv.used])
 (K (AV.tup [AV.agg [AV.str (Pat.Pat.base p), AV.bool x1, AV.vecr false 1 x3 (Pat.intF x2), AV.vecr false 1 x5 (Pat.intF x4), AV.vecr false 1 x7 (Pat.intF x6), AV.vecr false 1 x9 (Pat.trF x8), AV.bool hv.first, AV.int .i64 (wr .i64 (hv.turn + 1)), AV.bool hv.dead, AV.bool hv.sh, AV.b8 32 hv.ck, AV.u64 hv.n, AV.b8 32 hv.ch, AV.b8 32 hv.hs, AV.b8 32 hv.own, AV.b8 32 hv.fr, AV.bool hv.has, AV.b8 32 hv.their, AV.bool hv.knows, AV.b8 32 hv.newest, AV.bool hv.saw, AV.vecr false 32 (List.length hv.psks) (Shk.keyF hv.psks), AV.int .i64 hv.used], AV.sl 0 0 1 (List.length (Hd.out (hdW p s sec w12))), AV.int .i64 0]) [Ent.grow8 (Hd.out (hdW p s sec w12)) []]))))))))))))))) := by kernel_rfl
structure OkS (m : Nat) (s : Sh) : Prop where
 ck : s.ck.length = 32
 ch : s.ch.length = 32
 hs : s.hs.length = 32
 own : s.own.length = 32
 fr : s.fr.length = 32
 their : s.their.length = 32
 newest : s.newest.length = 32
 sy : (s.sh = true ∧ s.n.toNat ≤ m) ∨ (s.sh = false ∧ s.ck = zn ∧ s.n = 0)
 ps : z1gc s.psks
 us : 0 ≤ s.used
structure SameS (a b : Sh) : Prop where
 first : a.first = b.first
 turn : a.turn = b.turn
 dead : a.dead = b.dead
 own : a.own = b.own
 psks : a.psks = b.psks
theorem SameS.refl (a : Sh) : SameS a a := ⟨rfl, rfl, rfl, rfl, rfl⟩
theorem SameS.trans {a b c : Sh} (h : SameS a b) (g : SameS b c) : SameS a c := ⟨h.1.trans g.1, h.2.trans g.2, h.3.trans g.3, h.4.trans g.4, h.5.trans g.5⟩
theorem OkS.up {m k : Nat} {s : Sh} (h : OkS m s) (hk : m ≤ k) : OkS k s := ⟨h.ck, h.ch, h.hs, h.own, h.fr, h.their, h.newest, h.sy.imp (fun x => ⟨x.1, by omega⟩) id, h.ps, h.us⟩
theorem z10m {m : UInt64} (h : m.toNat < 2000) : z9b m = false := by
 unfold z9b;rw [beq_eq_false_iff_ne]; omega
theorem OkS.symK {m : Nat} {s : Sh} (h : OkS m s) (hm : m < 1900) : symK s.sh s.ck s.n = true := by
 rw [zjt];unfold zbm;rcases h.sy with ⟨h1, h2⟩ | ⟨h1, h2, h3⟩
 ·rw [h1, cond_true, z10m (by omega)]; rfl
 ·rw [h1, cond_false, h2, h3, zxm]; rfl
theorem OkS.symN {m : Nat} {s : Sh} (h : OkS m s) (hm : m < 1900) : (s.sh = true ∧ (symN s.sh s.n).toNat ≤ m + 1) ∨ (s.sh = false ∧ s.ck = zn ∧ symN s.sh s.n = 0) := by
 rw [zo0];unfold zrb;rcases h.sy with ⟨h1, h2⟩ | ⟨h1, h2, h3⟩
 ·refine .inl ⟨h1, ?_⟩;rw [h1, cond_true, UInt64.toNat_add];have : (1 : UInt64).toNat = 1 := rfl;omega
 ·exact .inr ⟨h1, h2, by rw [h1, cond_false, h3]⟩
theorem zwq {m : Nat} {h : Hd} (g : OkS m h.s) (k : List UInt8) : OkS m (z7w h k).s :=
 ⟨zk8 _ _, zk2 _ _, g.hs, g.own, g.fr, g.their, g.newest, .inl ⟨rfl, Nat.zero_le _⟩, g.ps, g.us⟩
theorem ztz {m : Nat} {h : Hd} (g : OkS m h.s) (k : List UInt8) : OkS m (zbj h k).s :=
 ⟨g.ck, g.ch, z1l _, g.own, g.fr, g.their, g.newest, g.sy, g.ps, g.us⟩
theorem z1bb {m : Nat} {h : Hd} (g : OkS m h.s) : OkS m (zih h).s :=
 ⟨zvn _ _, zk2 _ _, z1l _, g.own, g.fr, g.their, g.newest, .inl ⟨rfl, Nat.zero_le _⟩, g.ps, by have := g.us; show 0 ≤ h.s.used + 1; omega⟩
theorem znp {m : Nat} {h : Hd} (g : OkS m h.s) (a b : Bool) (x y : List UInt8) : OkS m (dhH a b x y h).s := by
 unfold dhH;cases !a || !b with
 | true => exact g
 | false =>
  cases !z3e x y with
  | true => exact g
  | false => exact zwq g _
theorem znq {m : Nat} {h : Hd} (g : OkS m h.s) (t : Int) : OkS m (z1v t h).s := by
 unfold z1v;cases t == 3 with
 | true => exact znp g _ _ _ _
 | false =>
 cases t == 6 with
 | true => exact znp g _ _ _ _
 | false =>
 cases t == 7 with
 | true =>
  show OkS m (bif _ then _ else _ : Hd).s;cases decide ((h.s.psks.length : Int) ≤ h.s.used) with
  | true => exact g
  | false => exact z1bb g
 | false =>
 cases (t == 4) == h.s.first with
 | true => exact znp g _ _ _ _
 | false => exact znp g _ _ _ _
theorem zsw {m : Nat} {h : Hd} (g : OkS m h.s) (k : List UInt8) : OkS m (z4q k h).s := by
 unfold z4q;cases decide (0 < h.s.psks.length) with
 | true => exact zwq (ztz g k) k
 | false => exact ztz g k
theorem zv6 {m : Nat} {h : Hd} (g : OkS m h.s) (hm : m < 1900) (b : List UInt8) : OkS (m + 1) (zbn b h).s :=
 ⟨g.ck, g.ch, z1l _, g.own, g.fr, g.their, g.newest, g.symN hm, g.ps, g.us⟩
theorem zji (a b : Bool) (x y : List UInt8) (h : Hd) : SameS (dhH a b x y h).s h.s := by
 unfold dhH;cases !a || !b with
 | true => exact SameS.refl _
 | false =>
  cases !z3e x y with
  | true => exact SameS.refl _
  | false => exact ⟨rfl, rfl, rfl, rfl, rfl⟩
theorem zkj (t : Int) (h : Hd) : SameS (z1v t h).s h.s := by
 unfold z1v;cases t == 3 with
 | true => exact zji _ _ _ _ _
 | false =>
 cases t == 6 with
 | true => exact zji _ _ _ _ _
 | false =>
 cases t == 7 with
 | true =>
  show SameS (bif _ then _ else _ : Hd).s _;cases decide ((h.s.psks.length : Int) ≤ h.s.used) with
  | true => exact SameS.refl _
  | false => exact ⟨rfl, rfl, rfl, rfl, rfl⟩
 | false =>
 cases (t == 4) == h.s.first with
 | true => exact zji _ _ _ _ _
 | false => exact zji _ _ _ _ _
theorem zpb (k : List UInt8) (h : Hd) : SameS (z4q k h).s h.s := by
 unfold z4q;cases decide (0 < h.s.psks.length) <;> exact ⟨rfl, rfl, rfl, rfl, rfl⟩
theorem zbs (t : Int) (h : Hd) : (z1v t h).inn = h.inn ∧ (z1v t h).out = h.out := by
 have dh : ∀ a b x y, (dhH a b x y h).inn = h.inn ∧ (dhH a b x y h).out = h.out := by
  intro a b x y;unfold dhH;cases !a || !b with
  | true => exact ⟨rfl, rfl⟩
  | false => cases !z3e x y <;> exact ⟨rfl, rfl⟩
 unfold z1v;cases t == 3 with
 | true => exact dh _ _ _ _
 | false =>
 cases t == 6 with
 | true => exact dh _ _ _ _
 | false =>
 cases t == 7 with
 | true =>
  show (bif _ then _ else _ : Hd).inn = _ ∧ (bif _ then _ else _ : Hd).out = _;cases decide ((h.s.psks.length : Int) ≤ h.s.used) <;> exact ⟨rfl, rfl⟩
 | false =>
 cases (t == 4) == h.s.first with
 | true => exact dh _ _ _ _
 | false => exact dh _ _ _ _
theorem z1bx {m : Nat} {h : Hd} (g : OkS m h.s) (hm : m < 1900) (t : Int) : OkS (m + 1) (z2t h t).s ∧ SameS (z2t h t).s h.s ∧ (z2t h t).inn.length ≤ h.inn.length := by
 unfold z2t;cases h.e == 0 with
 | false => exact ⟨g.up (by omega), SameS.refl _, Nat.le_refl _⟩
 | true =>
 simp only [cond_true];cases t == 1 with
 | true =>
  simp only [cond_true];cases hl : ltB h.inn.length 32 with
  | true => exact ⟨g.up (by omega), SameS.refl _, Nat.le_refl _⟩
  | false =>
   have hl2 := z3h hl;simp only [cond_false];have hn : (h.inn.take 32).length = 32 := by rw [List.length_take]; omega
   refine ⟨zsw (h := ⟨{ h.s with newest := h.inn.take 32, saw := true }, h.out, h.inn.drop 32, h.e⟩) ⟨g.ck, g.ch, g.hs, g.own, g.fr, g.their, hn, (g.up (Nat.le_succ m)).sy, g.ps, g.us⟩ _, (zpb _ _).trans ⟨rfl, rfl, rfl, rfl, rfl⟩, ?_⟩
   unfold z4q;cases decide (0 < _) <;> (show (h.inn.drop 32).length ≤ _; rw [List.length_drop]; omega)
 | false =>
 simp only [cond_false];cases t == 2 with
 | true =>
  simp only [cond_true];cases hl : ltB h.inn.length (z3u h) with
  | true => exact ⟨g.up (by omega), SameS.refl _, Nat.le_refl _⟩
  | false =>
   have hl2 := z3h hl;simp only [cond_false];cases z7v h.s.sh h.s.ck h.s.n h.s.hs (h.inn.take (z3u h)) with
   | true =>
    have ho : (z47 h.s.sh h.s.ck h.s.n (h.inn.take (z3u h))).length = 32 := by
     rw [zq4 (hash := []), List.length_take];unfold z3u at hl2 ⊢;cases hs : h.s.sh with
     | true => rw [hs] at hl2; simp only [cond_true] at hl2 ⊢; omega
     | false => rw [hs] at hl2; simp only [cond_false] at hl2 ⊢; omega
    exact ⟨⟨g.ck, g.ch, z1l _, g.own, g.fr, ho, g.newest, g.symN hm, g.ps, g.us⟩, ⟨rfl, rfl, rfl, rfl, rfl⟩, by show (h.inn.drop _).length ≤ _; rw [List.length_drop]; omega⟩
   | false => exact ⟨⟨g.ck, g.ch, g.hs, g.own, g.fr, g.their, g.newest, (g.up (Nat.le_succ m)).sy, g.ps, g.us⟩, ⟨rfl, rfl, rfl, rfl, rfl⟩, by show (h.inn.drop _).length ≤ _; rw [List.length_drop]; omega⟩
 | false =>
  exact ⟨(znq g t).up (by omega), zkj t h, by show (z1v t h).inn.length ≤ _; rw [(zbs t h).1]; exact Nat.le_refl _⟩
theorem z1be {m : Nat} {h : Hd} {sec : List UInt8} (g : OkS m h.s) (hs : sec.length = 32) (hm : m < 1900) (t : Int) : OkS (m + 1) (z3d sec h t).s ∧ SameS (z3d sec h t).s h.s ∧ (z3d sec h t).out.length ≤ h.out.length + 48 := by
 unfold z3d;cases h.e == 0 with
 | false => exact ⟨g.up (by omega), SameS.refl _, by show h.out.length ≤ _; omega⟩
 | true =>
 simp only [cond_true];cases t == 1 with
 | true =>
  simp only [cond_true];refine ⟨zsw (h := ⟨{ h.s with fr := sec, has := true }, h.out ++ zz sec, h.inn, h.e⟩) ⟨g.ck, g.ch, g.hs, g.own, hs, g.their, g.newest, (g.up (Nat.le_succ m)).sy, g.ps, g.us⟩ _, (zpb _ _).trans ⟨rfl, rfl, rfl, rfl, rfl⟩, ?_⟩
  unfold z4q;cases decide (0 < _) <;> (show (h.out ++ zz sec).length ≤ _; rw [List.length_append, z29]; omega)
 | false =>
 simp only [cond_false];cases t == 2 with
 | true =>
  simp only [cond_true];refine ⟨zv6 g hm _, ⟨rfl, rfl, rfl, rfl, rfl⟩, ?_⟩;show (h.out ++ z2b _ _ _ _ _).length ≤ _;rw [List.length_append, zb1, z29];cases h.s.sh with
  | true => simp only [cond_true]; omega
  | false => simp only [cond_false]; omega
 | false =>
  exact ⟨(znq g t).up (by omega), zkj t h, by show (z1v t h).out.length ≤ _; rw [(zbs t h).2]; omega⟩
theorem zku (p : Pat) (s : Sh) (b : List UInt8) (i : Nat) : hdR p s b (i + 1) = z2t (hdR p s b i) ((z12 p s).getD i 0) := by rw [z12o]; rfl
theorem zl8 (p : Pat) (s : Sh) (b : List UInt8) : hdR p s b 0 = ⟨s, [], b, 0⟩ := by rw [z12o]; rfl
theorem zce (p : Pat) (s : Sh) (sec : List UInt8) (i : Nat) : hdW p s sec (i + 1) = z3d sec (hdW p s sec i) ((z12 p s).getD i 0) := by rw [z13v]; rfl
theorem zcg (p : Pat) (s : Sh) (sec : List UInt8) : hdW p s sec 0 = ⟨s, [], [], 0⟩ := by rw [z13v]; rfl
theorem zt2 {m : Nat} {p : Pat} {s : Sh} {b : List UInt8} (g : OkS m s) : ∀ i, m + i < 1900 → OkS (m + i) (hdR p s b i).s ∧ SameS (hdR p s b i).s s ∧ (hdR p s b i).inn.length ≤ b.length
 | 0, _ => by rw [zl8]; exact ⟨g, SameS.refl _, Nat.le_refl _⟩
 | i + 1, hi => by
  obtain ⟨h1, h2, h3⟩ := zt2 (p := p) (b := b) g i (by omega)
  obtain ⟨k1, k2, k3⟩ := z1bx h1 (by omega) ((z12 p s).getD i 0)
  rw [zku];exact ⟨k1, k2.trans h2, Nat.le_trans k3 h3⟩
theorem zm0 {m : Nat} {p : Pat} {s : Sh} {sec : List UInt8} (g : OkS m s) (hs : sec.length = 32) : ∀ i, m + i < 1900 → OkS (m + i) (hdW p s sec i).s ∧ SameS (hdW p s sec i).s s ∧ (hdW p s sec i).out.length ≤ 48 * i
 | 0, _ => by rw [zcg]; exact ⟨g, SameS.refl _, Nat.le_refl _⟩
 | i + 1, hi => by
  obtain ⟨h1, h2, h3⟩ := zm0 (p := p) g hs i (by omega)
  obtain ⟨k1, k2, k3⟩ := z1be h1 hs (by omega) ((z12 p s).getD i 0)
  rw [zce];exact ⟨k1, k2.trans h2, by omega⟩
def z4z (p : Pat) (s : Sh) (own : Bool) : Bool := s.dead || (decide (s.turn < 0) || (!decide (s.turn < (p.turns.length : Int)) || ((((Int.tmod s.turn 2) == 0) == (s.first != p.late)) != own || decide (s.used < 0))))
def errO (n : Nat) : Int := bif ltB n 16 then 4 else 10
noncomputable def zbp (p : Pat) (s : Sh) (b : List UInt8) : Sh × List UInt8 × Int :=
 bif z4z p s false then (s, [], 9) else bif ltB 800 b.length then (s, [], 1)
 else bif (hdR p s b (z12 p s).length).e == 0 then
  (bif z7v (hdR p s b (z12 p s).length).s.sh (hdR p s b (z12 p s).length).s.ck (hdR p s b (z12 p s).length).s.n (hdR p s b (z12 p s).length).s.hs (hdR p s b (z12 p s).length).inn then
   ({ (hdR p s b (z12 p s).length).s with n := symN (hdR p s b (z12 p s).length).s.sh (hdR p s b (z12 p s).length).s.n, hs := sumS ((hdR p s b (z12 p s).length).s.hs ++ (hdR p s b (z12 p s).length).inn), turn := s.turn + 1 },
    z47 (hdR p s b (z12 p s).length).s.sh (hdR p s b (z12 p s).length).s.ck (hdR p s b (z12 p s).length).s.n (hdR p s b (z12 p s).length).inn, 0)
  else ({ s with dead := true }, [], errO (hdR p s b (z12 p s).length).inn.length))
 else ({ s with dead := true }, [], (hdR p s b (z12 p s).length).e)
noncomputable def z3f : Pat → Sh → List UInt8 → Sh × List UInt8 × Int := (zf zbp).val
theorem z9s : z3f = zbp := by rw [z3f, (zf zbp).property]
noncomputable def z9i (p : Pat) (s : Sh) (sec b : List UInt8) : Sh × List UInt8 × Int :=
 bif z4z p s true then (s, [], 9) else bif ltB 400 b.length then (s, [], 1)
 else bif (hdW p s sec (z12 p s).length).e == 0 then
  ({ (zbn b (hdW p s sec (z12 p s).length)).s with turn := s.turn + 1 }, (zbn b (hdW p s sec (z12 p s).length)).out, 0)
 else ({ s with dead := true }, [], (hdW p s sec (z12 p s).length).e)
noncomputable def z2c : Pat → Sh → List UInt8 → List UInt8 → Sh × List UInt8 × Int := (zf z9i).val
theorem z8l : z2c = z9i := by rw [z2c, (zf z9i).property]
noncomputable def z7q (p : Pat) (x : Sh × List UInt8 × Int) : Out := .ret (.tup [shV p x.1, .vec8 false x.2.1, .int .i64 x.2.2]) []
theorem zi2 {p : Pat} (h : p ∈ z2e) : p.turns.length < 10 ∧ ∀ t ∈ p.turns, t.length < 20 := by
 have : (z2e.all fun p => decide (p.turns.length < 10) && p.turns.all fun t => decide (t.length < 20)) = true := by kernel_rfl
 have := List.all_eq_true.1 this p h;simpa using this
theorem zmb {p : Pat} (h : p ∈ z2e) (s : Sh) : (z12 p s).length < 20 := by
 unfold z12;rw [List.getD_eq_getElem?_getD];cases hg : p.turns[s.turn.toNat]? with
 | none => decide
 | some t => exact (zi2 h).2 t (List.mem_of_getElem? hg)
theorem z1eh : leV (.vec8 true []) (.vec8 false []) := z16b rfl
theorem zg4 {p : Pat} {x : Sh × List UInt8 × Int} {s : Sh} {e : Int} (h : x = (s, [], e)) : okOut (z7q p x) (.tup [.agg (shC p s), .vec8 true [], .int .i64 e]) [] := by
 subst h;exact okOut.cold (v' := .tup [.agg (shC p s), .vec8 true [], .int .i64 e]) (u := []) rfl (z9m (z1b (leV.refl _) (z1b z1eh (z1b (leV.refl _) z4w)))) rfl ⟨rfl, rfl⟩
theorem z16q {p : Pat} {x : Sh × List UInt8 × Int} {s : Sh} {t : List UInt8} {e : Int} (h : x = (s, t, e)) : okOut (z7q p x) (.tup [.agg (shC p s), .vec8 false t, .int .i64 e]) [] := by
 subst h;exact okOut.here ⟨rfl, rfl⟩
theorem zc6 {p : Pat} {s : Sh} (hp : p ∈ z2e) (hl : s.psks.length = p.psks.length) : isSh (shC p s) = true := zsf.2 ⟨p, s, hp, hl, rfl⟩
theorem zy5 (n : Nat) (l : List UInt8) : zt none (some ((n : Nat) : Int)) l = l.take n := by show l.take (Int.toNat _) = _; rw [Int.toNat_natCast]
theorem zy9 (n : Nat) (l : List UInt8) : zt (some ((n : Nat) : Int)) none l = l.drop n := by show l.drop (Int.toNat _) = _; rw [Int.toNat_natCast]
theorem z149 {a b : List UInt8} (ha : a.length = 32) (hb : b.length = 32) : a.take 32 ++ b.drop (min a.length 32) = a := by
 rw [ha, List.take_of_length_le (by omega), Nat.min_self, List.drop_eq_nil_of_le (by omega), List.append_nil]
theorem rd_c (p : Pat) (s : Sh) (fb : Bool) (b : List UInt8) (hp : p ∈ z2e) (hl : s.psks.length = p.psks.length) (g : OkS 1000 s) :
  HCall Tryz.E 10 [shV p s, .vec8 fb b] (z7q p (z3f p s b)) := by
 refine HCall.of_walkC (R := RSh) (T := KQ) (z192 p s b) 6 rfl rfl ?_;rw [z1fy];dsimp only;have refuse : ∀ e, z3f p s b = (s, [], e) → cnd (isSh (shC p s)) (okOut (z7q p (z3f p s b)) (.tup [.agg (shC p s), .vec8 true [], .int .i64 e]) []) := fun e he => ze.2 ⟨zc6 hp hl, zg4 he⟩
 have no : z4z p s false = true → z3f p s b = (s, [], 9) := fun h => by rw [z9s, zbp, h]; rfl
 refine zx.2 ⟨fun h1 => refuse 9 (no (by rw [z4z, h1]; rfl)), fun h1 => ?_⟩
 refine zx.2 ⟨fun h2 => refuse 9 (no ?_), fun h2 => ?_⟩
 ·have h2 : ltI s.turn 0 = true := h2;rw [z1p] at h2;rw [z4z, h1, h2]; rfl
 have h2 : ltI s.turn 0 = false := h2;rw [z1p] at h2;refine zx.2 ⟨fun h3 => refuse 9 (no ?_), fun h3 => ?_⟩
 ·have h3 : (!ltI s.turn p.turns.length) = true := h3;rw [z1p] at h3;rw [z4z, h1, h2, h3]; rfl
 have h3 : (!ltI s.turn p.turns.length) = false := h3;rw [z1p] at h3;refine zx.2 ⟨fun h4 => refuse 9 (no ?_), fun h4 => ?_⟩
 ·have h4 : ((((Int.tmod s.turn 2) == 0) == (s.first != p.late)) != false) = true := h4;rw [z4z, h1, h2, h3, h4]; rfl
 have h4 : ((((Int.tmod s.turn 2) == 0) == (s.first != p.late)) != false) = false := h4;refine ze.2 ⟨zjo.2 ⟨p, hp, rfl⟩, ?_⟩;refine zx.2 ⟨fun h5 => refuse 9 (no ?_), fun h5 => ?_⟩
 ·have h5 : ltI s.used 0 = true := h5;rw [z1p] at h5;rw [z4z, h1, h2, h3, h4, h5]; rfl
 have h5 : ltI s.used 0 = false := h5;rw [z1p] at h5;have hmay : z4z p s false = false := by rw [z4z, h1, h2, h3, h4, h5]; rfl
 refine zx.2 ⟨fun h6 => refuse 1 ?_, fun h6 => ?_⟩
 ·have h6 : ltB 800 b.length = true := z1w.2 (by have := (z5s _ _).1 h6; omega)
  rw [z9s, zbp, hmay, h6]; rfl
 have h6 : ltB 800 b.length = false := by
  have := h6;rw [z1p, decide_eq_false_iff_not] at this;exact Bool.not_eq_true _ ▸ fun h => by have := z1w.1 h; omega
 have hb : b.length ≤ 800 := z3h h6;have t0 : 0 ≤ s.turn := by simpa using h2
 have t1 : s.turn < p.turns.length := by simpa using h3
 have hsm := zi2 hp;have hts := zmb hp s;refine ze.2 ⟨by rw [z3x t0 t1]; rfl, ?_⟩
 rw [show p.turns.getD (Int.toNat s.turn) [] = z12 p s from rfl]
 refine ⟨?_, ?_⟩
 ·refine ⟨0, Inv.upTo_int.2 (by omega), ze.2 ⟨by cases fb <;> rfl, ?_⟩⟩
  rw [zl8]
  repeat' (first | exact rfl | exact trivial | exact fun _ _ => leR.refl rfl | apply And.intro)
  all_goals (refine ze.2 ⟨by cases fb <;> rfl, ?_⟩; exact ⟨rfl, rfl, trivial⟩)
 intro i hi;have hi := Inv.upTo_int.1 hi;obtain ⟨G, S, L⟩ := zt2 (p := p) (b := b) g i (by omega)
 have LEAF : ∀ A : Hd, i < (z12 p s).length → A.s = (hdR p s b (i + 1)).s → A.inn = (hdR p s b (i + 1)).inn → A.e = (hdR p s b (i + 1)).e → z17 p s fb b i (wr .i64 (((i : Nat) : Int) + 1)) A := fun A a1 a2 a3 a4 => z17x a1 (by omega) a2 a3 a4
 simp only [zku] at LEAF;generalize hH : hdR p s b i = h at *;generalize hT : (z12 p s).getD i 0 = t at LEAF;have hT2 : List.getD (z12 p s) (Int.toNat ((i : Nat) : Int)) 0 = t := hT;rw [hT2];have hK := G.symK (by omega)
 have lh : leB h.s.hs.length 200 = true := zp (by have := G.hs; omega)
 have lc : leB h.s.ch.length 64 = true := zp (by have := G.ch; omega)
 have ld : ∀ a c, leB (dhS a c).length 100000 = true := fun a c => zp (by rw [zlq]; omega)
 refine zx.2 ⟨fun hlt => ?_, fun hge => ?_⟩
 ·have hlt : i < (z12 p s).length := by
   have := (z5s _ _).1 hlt;exact Int.ofNat_lt.1 this
  refine ze.2 ⟨by rw [z3x (by omega) (Int.ofNat_lt.2 hlt)]; rfl, ?_⟩
  refine zx.2 ⟨fun he => ?_, fun he => ?_⟩
  rotate_left
  ·have TOK : z2t h t = h := by unfold z2t; rw [he]; rfl
   rw [TOK] at LEAF;exact LEAF _ hlt rfl rfl rfl
  have hne : (h.e != 0) = false := by unfold bne; rw [he]; rfl
  have he0 : h.e = 0 := by simpa using he
  simp only [he, hne, Go.V.ite2_true, Go.V.ite2_false];have e4 : ∀ n, ((bif ltB n 16 then (4 : Int) else 10) != 0) = true := fun n => by cases ltB n 16 <;> rfl
  have okN : ∀ k : Nat, k ≤ h.inn.length → z19 none (some ((k : Nat) : Int)) h.inn.length = true ∧ z19 (some ((k : Nat) : Int)) none h.inn.length = true := fun k hk => by
   refine ⟨?_, ?_⟩
   ·show (nnB _ && leB (Int.toNat _) _) = true;rw [z3j.2 (by omega), Int.toNat_natCast, zp hk]; rfl
   ·show (nnB _ && leB (Int.toNat _) _) = true;rw [z3j.2 (by omega), Int.toNat_natCast, zp hk]; rfl
  refine zx.2 ⟨fun t1 => ?_, fun t1 => ?_⟩
  · -- E
   refine zx.2 ⟨fun q => ?_, fun q => ?_⟩
   ·have q := (z5s _ _).1 q;have TOK : z2t h t = z5j h 4 := by unfold z2t; rw [he, t1, zhk (a := h.inn.length) (by omega)]; rfl
    rw [TOK] at LEAF;exact LEAF _ hlt rfl rfl rfl
   ·have q : ¬ (h.inn.length : Int) < 32 := by rw [z1p, decide_eq_false_iff_not] at q; exact q
    have q : 32 ≤ h.inn.length := by omega
    have e1 : zt none (some 32) h.inn = h.inn.take 32 := zy5 32 _;have e2 : zt (some 32) none h.inn = h.inn.drop 32 := zy9 32 _;have l1 : (h.inn.take 32).length = 32 := by rw [List.length_take]; omega
    have e3 := z149 l1 G.newest;rw [e1, e2, e3];refine ze.2 ⟨(okN 32 q).1, ze.2 ⟨(okN 32 q).2, ze.2 ⟨zp (by rw [l1, G.hs]; omega), ?_⟩⟩⟩
    refine zx.2 ⟨fun r => ze.2 ⟨by rw [lc, zp (by omega)]; rfl, ?_⟩, fun r => ?_⟩
    ·have r : decide (0 < h.s.psks.length) = true := decide_eq_true (by have := (z5s _ _).1 r; omega)
     have TOK : z2t h t = z7w (zbj ⟨{ h.s with newest := h.inn.take 32, saw := true }, h.out, h.inn.drop 32, h.e⟩ (h.inn.take 32)) (h.inn.take 32) := by
      unfold z2t z4q; rw [he, t1, z3l (by omega)]; simp only [cond_true, cond_false, r]
     rw [TOK] at LEAF;exact LEAF _ hlt rfl rfl rfl
    ·have r : decide (0 < h.s.psks.length) = false := decide_eq_false (by rw [z1p, decide_eq_false_iff_not] at r; omega)
     have TOK : z2t h t = zbj ⟨{ h.s with newest := h.inn.take 32, saw := true }, h.out, h.inn.drop 32, h.e⟩ (h.inn.take 32) := by
      unfold z2t z4q; rw [he, t1, z3l (by omega)]; simp only [cond_true, cond_false, r]
     rw [TOK] at LEAF;exact LEAF _ hlt rfl rfl rfl
  refine zx.2 ⟨fun t2 => ?_, fun t2 => ?_⟩
  · -- S
   have main : ∀ k : Nat, (k = 32 ∨ k = 48) → z3u h = k →
     (za (ltI ((h.inn.length : Nat) : Int) ((k : Nat) : Int)) (z17 p s fb b i (wr .i64 (((i : Nat) : Int) + 1)) (z5j h 4))
      (cnd (z19 none (some ((k : Nat) : Int)) h.inn.length) (cnd (z19 (some ((k : Nat) : Int)) none h.inn.length)
       (cnd (leB h.s.hs.length 200 && (leB (zt none (some ((k : Nat) : Int)) h.inn).length 800 && symK h.s.sh h.s.ck h.s.n))
        (za (z7v h.s.sh h.s.ck h.s.n h.s.hs (zt none (some ((k : Nat) : Int)) h.inn))
         (z17 p s fb b i (wr .i64 (((i : Nat) : Int) + 1)) ⟨{ h.s with n := symN h.s.sh h.s.n, hs := sumS (h.s.hs ++ zt none (some ((k : Nat) : Int)) h.inn), their := (z47 h.s.sh h.s.ck h.s.n (zt none (some ((k : Nat) : Int)) h.inn)).take 32 ++ h.s.their.drop (min (z47 h.s.sh h.s.ck h.s.n (zt none (some ((k : Nat) : Int)) h.inn)).length 32), knows := true }, h.out, zt (some ((k : Nat) : Int)) none h.inn, h.e⟩)
         (z17 p s fb b i (wr .i64 (((i : Nat) : Int) + 1)) ⟨{ h.s with knows := true }, h.out, zt (some ((k : Nat) : Int)) none h.inn, bif ltB (zt none (some ((k : Nat) : Int)) h.inn).length 16 then 4 else 10⟩)))))) := by
    intro k hk hkl;refine zx.2 ⟨fun q => ?_, fun q => ?_⟩
    ·have q := (z5s _ _).1 q;have TOK : z2t h t = z5j h 4 := by unfold z2t; rw [he, t1, t2, hkl, zhk (a := h.inn.length) (b := k) (by omega)]; rfl
     rw [TOK] at LEAF;exact LEAF _ hlt rfl rfl rfl
    ·have q : ¬ (h.inn.length : Int) < (k : Int) := by rw [z1p, decide_eq_false_iff_not] at q; exact q
     have q : k ≤ h.inn.length := by omega
     rw [zy5, zy9];have l1 : (h.inn.take k).length = k := by rw [List.length_take]; omega
     refine ze.2 ⟨(okN k q).1, ze.2 ⟨(okN k q).2, ze.2 ⟨by rw [lh, zp (by omega), hK]; rfl, ?_⟩⟩⟩
     refine zx.2 ⟨fun r => ?_, fun r => ?_⟩
     ·have lo : (z47 h.s.sh h.s.ck h.s.n (h.inn.take k)).length = 32 := by
       rw [zq4 (hash := []), l1];unfold z3u at hkl;cases hs : h.s.sh with
       | true => rw [hs] at hkl; simp only [cond_true] at hkl ⊢; omega
       | false => rw [hs] at hkl; simp only [cond_false] at hkl ⊢; omega
      rw [z149 lo G.their];have TOK : z2t h t = ⟨{ h.s with n := symN h.s.sh h.s.n, hs := sumS (h.s.hs ++ h.inn.take k), their := z47 h.s.sh h.s.ck h.s.n (h.inn.take k), knows := true }, h.out, h.inn.drop k, h.e⟩ := by
       unfold z2t; rw [he, t1, t2, hkl, z3l (a := h.inn.length) (b := k) (by omega), r]; rfl
      rw [TOK] at LEAF;exact LEAF _ hlt rfl rfl rfl
     ·have TOK : z2t h t = ⟨{ h.s with knows := true }, h.out, h.inn.drop k, bif ltB (h.inn.take k).length 16 then 4 else 10⟩ := by
       unfold z2t; rw [he, t1, t2, hkl, z3l (a := h.inn.length) (b := k) (by omega), r]; rfl
      rw [TOK] at LEAF;exact LEAF _ hlt rfl rfl rfl
   simp only [e4, Go.V.ite2_true];refine zx.2 ⟨fun hs => main 48 (.inr rfl) (by unfold z3u; rw [hs]; rfl), fun hs => main 32 (.inl rfl) (by unfold z3u; rw [hs]; rfl)⟩
  have half : ∀ (saw : Bool) (x y : List UInt8), z2t h t = dhH true saw x y h → za (bif false then true else !saw) (z17 p s fb b i (wr .i64 (((i : Nat) : Int) + 1)) ⟨h.s, [], h.inn, 5⟩)
    (za (!z3e x y) (z17 p s fb b i (wr .i64 (((i : Nat) : Int) + 1)) ⟨h.s, [], h.inn, 12⟩)
     (cnd (leB h.s.ch.length 64 && leB (dhS x y).length 100000) (z17 p s fb b i (wr .i64 (((i : Nat) : Int) + 1)) ⟨(z7w h (dhS x y)).s, [], h.inn, h.e⟩))) := by
   intro saw x y TOK;refine zx.2 ⟨fun q => ?_, fun q => zx.2 ⟨fun r => ?_, fun r => ze.2 ⟨by rw [lc, ld]; rfl, ?_⟩⟩⟩
   ·have q : saw = false := by simpa using q
    have TOK2 : z2t h t = z5j h 5 := by rw [TOK, dhH, q]; rfl
    rw [TOK2] at LEAF;exact LEAF _ hlt rfl rfl rfl
   ·have q : saw = true := by simpa using q
    have r : z3e x y = false := by simpa using r
    have TOK2 : z2t h t = z5j h 12 := by rw [TOK, dhH, q, r]; rfl
    rw [TOK2] at LEAF;exact LEAF _ hlt rfl rfl rfl
   ·have q : saw = true := by simpa using q
    have r : z3e x y = true := by simpa using r
    have TOK2 : z2t h t = z7w h (dhS x y) := by rw [TOK, dhH, q, r]; rfl
    rw [TOK2] at LEAF;exact LEAF _ hlt rfl rfl rfl
  have full : ∀ (own saw : Bool) (x y : List UInt8), z2t h t = dhH own saw x y h → za (!own) (z17 p s fb b i (wr .i64 (((i : Nat) : Int) + 1)) ⟨h.s, [], h.inn, 5⟩) (za (bif false then true else !saw) (z17 p s fb b i (wr .i64 (((i : Nat) : Int) + 1)) ⟨h.s, [], h.inn, 5⟩)
    (za (!z3e x y) (z17 p s fb b i (wr .i64 (((i : Nat) : Int) + 1)) ⟨h.s, [], h.inn, 12⟩)
     (cnd (leB h.s.ch.length 64 && leB (dhS x y).length 100000) (z17 p s fb b i (wr .i64 (((i : Nat) : Int) + 1)) ⟨(z7w h (dhS x y)).s, [], h.inn, h.e⟩)))) := by
   intro own saw x y TOK;refine zx.2 ⟨fun q => ?_, fun q => half saw x y ?_⟩
   ·have q : own = false := by simpa using q
    have TOK2 : z2t h t = z5j h 5 := by rw [TOK, dhH, q]; rfl
    rw [TOK2] at LEAF;exact LEAF _ hlt rfl rfl rfl
   ·have q : own = true := by simpa using q
    rw [TOK, q]
  refine zx.2 ⟨fun t3 => ?_, fun t3 => ?_⟩
  ·exact full _ _ _ _ (by unfold z2t z1v; rw [he, t1, t2, t3]; rfl)
  refine zx.2 ⟨fun t6 => ?_, fun t6 => ?_⟩
  ·exact half _ _ _ (by unfold z2t z1v; rw [he, t1, t2, t3, t6]; rfl)
  refine zx.2 ⟨fun t7 => ?_, fun t7 => ?_⟩
  ·refine zx.2 ⟨fun q => ?_, fun q => ?_⟩
   ·have q : decide ((h.s.psks.length : Int) ≤ h.s.used) = true := by
     rw [z1p] at q;exact decide_eq_true (by simpa using q)
    have TOK : z2t h t = z5j h 5 := by unfold z2t z1v; rw [he, t1, t2, t3, t6, t7, q]; rfl
    rw [TOK] at LEAF;exact LEAF _ hlt rfl rfl rfl
   ·have q1 : h.s.used < (h.s.psks.length : Int) := by
     rw [z1p] at q;simpa using q
    have q : decide ((h.s.psks.length : Int) ≤ h.s.used) = false := decide_eq_false (by omega)
    have lp : (h.s.psks.getD (Int.toNat h.s.used) []).length = 32 := by
     have := G.us;rw [List.getD_eq_getElem?_getD, List.getElem?_eq_getElem (by omega)]
     exact G.ps _ (List.getElem_mem _)
    refine ze.2 ⟨by rw [z3x G.us q1]; rfl, ze.2 ⟨by rw [lc, zp (by omega), zp (by have := G.hs; omega)]; rfl, ?_⟩⟩
    have TOK : z2t h t = zih h := by unfold z2t z1v; rw [he, t1, t2, t3, t6, t7, q]; rfl
    rw [TOK] at LEAF;refine LEAF _ hlt ?_ rfl rfl;have : wr .i64 (h.s.used + 1) = h.s.used + 1 := z2o (by have := G.us; omega) (by have := S.psks; have := zgf hp; rw [S.psks] at q1; omega)
    rw [this]
    try rfl
  refine zx.2 ⟨fun t4 => ?_, fun t4 => ?_⟩
  ·exact full _ _ _ _ (by unfold z2t z1v; rw [he, t1, t2, t3, t6, t7, t4]; rfl)
  ·exact half _ _ _ (by unfold z2t z1v; rw [he, t1, t2, t3, t6, t7, t4]; rfl)
 ·have hi2 : i = (z12 p s).length := by
   rw [z1p, decide_eq_false_iff_not] at hge; omega
  have hR : hdR p s b (z12 p s).length = h := by rw [← hi2]; exact hH
  have dead : ∀ e, z3f p s b = ({ s with dead := true }, [], e) → cnd (isSh (shC p { s with dead := true })) (okOut (z7q p (z3f p s b)) (.tup [.agg (shC p { s with dead := true }), .vec8 true [], .int .i64 e]) []) := fun e he => ze.2 ⟨zc6 hp hl, zg4 he⟩
  have e4 : ∀ n, ((bif ltB n 16 then (4 : Int) else 10) != 0) = true := fun n => by cases ltB n 16 <;> rfl
  refine zx.2 ⟨fun he => ze.2 ⟨by rw [lh, zp (by omega), hK]; rfl, ?_⟩, fun he => ?_⟩
  ·have hne : (h.e != 0) = false := by unfold bne; rw [he]; rfl
   simp only [he, hne, e4, Go.V.ite2_true, Go.V.ite2_false];refine zx.2 ⟨fun r => ?_, fun r => ?_⟩
   ·have hw : wr .i64 (h.s.turn + 1) = s.turn + 1 := by rw [S.turn]; exact z2o (by omega) (by omega)
    have hx : z3f p s b = ({ h.s with n := symN h.s.sh h.s.n, hs := sumS (h.s.hs ++ h.inn), turn := s.turn + 1 }, z47 h.s.sh h.s.ck h.s.n h.inn, 0) := by
     rw [z9s, zbp, hmay, h6, hR, he, r]; rfl
    rw [hw];exact ze.2 ⟨zc6 (p := p) (s := { h.s with n := symN h.s.sh h.s.n, hs := sumS (h.s.hs ++ h.inn), turn := s.turn + 1 }) hp (by show h.s.psks.length = _; rw [S.psks]; exact hl), z16q hx⟩
   ·exact dead _ (by rw [z9s, zbp, hmay, h6, hR, he, r]; rfl)
  ·have hne : (h.e != 0) = true := by unfold bne; rw [he]; rfl
   simp only [he, hne, Go.V.ite2_true, Go.V.ite2_false];exact dead _ (by rw [z9s, zbp, hmay, h6, hR, he]; rfl)
theorem z1ca (H : zc) (p : Pat) (s : Sh) : z1x H (.agg (shC p s)) = (true, .agg (shC p s), []) := by cases H <;> rfl
theorem z19p {p : Pat} {x : Sh × List UInt8 × Int} {s : Sh} {l : List UInt8} {n : Nat} {e : Int} (h : x = (s, l, e)) (hn : n = l.length) : okOut (z7q p x) (.tup [.agg (shC p s), .sl 0 0 1 n, .int .i64 e]) [.grow8 l []] := by
 subst h; subst hn
 refine okOut.cold (v' := .tup [.agg (shC p s), .vec8 false l, .int .i64 e]) (u := [(0, .grow8 l [(0, l.length)])]) ?_ (leV.refl _) rfl ⟨rfl, rfl⟩;have e1 : zl [Ent.grow8 l []] [] = [Ent.grow8 l []] := rfl;simp only [z3b, z27, z1ca, e1, zrz (show l.length = l.length from rfl)]
 rfl
theorem all0 (l : List UInt8) : List.take l.length (List.drop 0 l) = l := by rw [List.drop_zero, List.take_length]
theorem wr_c (p : Pat) (s : Sh) (fb : Bool) (sec b : List UInt8) (hp : p ∈ z2e) (hl : s.psks.length = p.psks.length) (g : OkS 1000 s) :
  HCall Tryz.E 8 [shV p s, .b8 32 sec, .vec8 fb b] (z7q p (z2c p s sec b)) := by
 refine HCall.of_len rfl rfl fun hlen => ?_
 have hsec : sec.length = 32 := hlen (.b8 32 sec) (by simp)
 refine HCall.of_walkC (R := RSh) (T := KQ) (z14d p s sec) 6 rfl rfl ?_;rw [z6n];dsimp only;have refuse : ∀ e, z2c p s sec b = (s, [], e) → cnd (isSh (shC p s)) (okOut (z7q p (z2c p s sec b)) (.tup [.agg (shC p s), .vec8 true [], .int .i64 e]) []) := fun e he => ze.2 ⟨zc6 hp hl, zg4 he⟩
 have no : z4z p s true = true → z2c p s sec b = (s, [], 9) := fun h => by rw [z8l, z9i, h]; rfl
 refine zx.2 ⟨fun h1 => refuse 9 (no (by rw [z4z, h1]; rfl)), fun h1 => ?_⟩
 refine zx.2 ⟨fun h2 => refuse 9 (no ?_), fun h2 => ?_⟩
 ·have h2 : ltI s.turn 0 = true := h2;rw [z1p] at h2;rw [z4z, h1, h2]; rfl
 have h2 : ltI s.turn 0 = false := h2;rw [z1p] at h2;refine zx.2 ⟨fun h3 => refuse 9 (no ?_), fun h3 => ?_⟩
 ·have h3 : (!ltI s.turn p.turns.length) = true := h3;rw [z1p] at h3;rw [z4z, h1, h2, h3]; rfl
 have h3 : (!ltI s.turn p.turns.length) = false := h3;rw [z1p] at h3;refine zx.2 ⟨fun h4 => refuse 9 (no ?_), fun h4 => ?_⟩
 ·have h4 : ((((Int.tmod s.turn 2) == 0) == (s.first != p.late)) != true) = true := h4;rw [z4z, h1, h2, h3, h4]; rfl
 have h4 : ((((Int.tmod s.turn 2) == 0) == (s.first != p.late)) != true) = false := h4;refine ze.2 ⟨zjo.2 ⟨p, hp, rfl⟩, ?_⟩;refine zx.2 ⟨fun h5 => refuse 9 (no ?_), fun h5 => ?_⟩
 ·have h5 : ltI s.used 0 = true := h5;rw [z1p] at h5;rw [z4z, h1, h2, h3, h4, h5]; rfl
 have h5 : ltI s.used 0 = false := h5;rw [z1p] at h5;have hmay : z4z p s true = false := by rw [z4z, h1, h2, h3, h4, h5]; rfl
 refine zx.2 ⟨fun h6 => refuse 1 ?_, fun h6 => ?_⟩
 ·have h6 : ltB 400 b.length = true := z1w.2 (by have := (z5s _ _).1 h6; omega)
  rw [z8l, z9i, hmay, h6]; rfl
 have h6 : ltB 400 b.length = false := by
  have := h6;rw [z1p, decide_eq_false_iff_not] at this;exact Bool.not_eq_true _ ▸ fun h => by have := z1w.1 h; omega
 have hb : b.length ≤ 400 := z3h h6;have t0 : 0 ≤ s.turn := by simpa using h2
 have t1 : s.turn < p.turns.length := by simpa using h3
 have hsm := zi2 hp;have hts := zmb hp s;refine ze.2 ⟨by rw [z3x t0 t1]; rfl, ?_⟩
 rw [show p.turns.getD (Int.toNat s.turn) [] = z12 p s from rfl]
 refine ⟨?_, ?_⟩
 ·refine ⟨0, Inv.upTo_int.2 (by omega), ze.2 ⟨by cases fb <;> rfl, ?_⟩⟩
  rw [zcg]
  repeat' (first | exact rfl | exact trivial | exact fun _ _ => leR.refl rfl | apply And.intro)
  all_goals (refine ze.2 ⟨by cases fb <;> rfl, ?_⟩; exact ⟨rfl, rfl, trivial⟩)
 intro i hi;have hi := Inv.upTo_int.1 hi;obtain ⟨G, S, O⟩ := zm0 (p := p) g hsec i (by omega)
 have LEAF : ∀ (A : Hd) (m : Nat), i < (z12 p s).length → A.s = (hdW p s sec (i + 1)).s → A.out = (hdW p s sec (i + 1)).out → A.e = (hdW p s sec (i + 1)).e → m = A.out.length → z1t p s fb sec b i (wr .i64 (((i : Nat) : Int) + 1)) m A := fun A m a1 a2 a3 a4 a5 => z18e a1 (by omega) a2 a3 a4 a5
 simp only [zce] at LEAF;generalize hH : hdW p s sec i = h at *;generalize hT : (z12 p s).getD i 0 = t at LEAF;have hT2 : List.getD (z12 p s) (Int.toNat ((i : Nat) : Int)) 0 = t := hT;rw [hT2];have hK := G.symK (by omega)
 have lh : leB h.s.hs.length 200 = true := zp (by have := G.hs; omega)
 have lc : leB h.s.ch.length 64 = true := zp (by have := G.ch; omega)
 have ld : ∀ a c, leB (dhS a c).length 100000 = true := fun a c => zp (by rw [zlq]; omega)
 refine zx.2 ⟨fun hlt => ?_, fun hge => ?_⟩
 ·have hlt : i < (z12 p s).length := by
   have := (z5s _ _).1 hlt;exact Int.ofNat_lt.1 this
  refine ze.2 ⟨by rw [z3x (by omega) (Int.ofNat_lt.2 hlt)]; rfl, ?_⟩
  refine zx.2 ⟨fun he => ?_, fun he => ?_⟩
  rotate_left
  ·have TOK : z3d sec h t = h := by unfold z3d; rw [he]; rfl
   rw [TOK] at LEAF;exact LEAF _ _ hlt rfl rfl rfl rfl
  have hne : (h.e != 0) = false := by unfold bne; rw [he]; rfl
  have he0 : h.e = 0 := by simpa using he
  simp only [he, hne, Go.V.ite2_true, Go.V.ite2_false];have e4 : ∀ n, ((bif ltB n 16 then (4 : Int) else 10) != 0) = true := fun n => by cases ltB n 16 <;> rfl
  have lo : h.out.length ≤ 48 * i := O;have lp : (zz sec).length = 32 := z29 _;refine zx.2 ⟨fun t1 => ?_, fun t1 => ?_⟩
  · -- E
   refine ze.2 ⟨beq_self_eq_true _, ze.2 ⟨zp (by omega), ze.2 ⟨zp (by have := G.hs; omega), ?_⟩⟩⟩
   refine zx.2 ⟨fun r => ze.2 ⟨by rw [lc, zp (by omega)]; rfl, ?_⟩, fun r => ?_⟩
   ·have r : decide (0 < h.s.psks.length) = true := decide_eq_true (by have := (z5s _ _).1 r; omega)
    have TOK : z3d sec h t = z7w (zbj ⟨{ h.s with fr := sec, has := true }, h.out ++ zz sec, h.inn, h.e⟩ (zz sec)) (zz sec) := by
     unfold z3d z4q; rw [he, t1]; simp only [cond_true, cond_false, r]
    rw [TOK] at LEAF;exact LEAF _ _ hlt rfl rfl rfl (by show _ = (h.out ++ zz sec).length; rw [List.length_append])
   ·have r : decide (0 < h.s.psks.length) = false := decide_eq_false (by rw [z1p, decide_eq_false_iff_not] at r; omega)
    have TOK : z3d sec h t = zbj ⟨{ h.s with fr := sec, has := true }, h.out ++ zz sec, h.inn, h.e⟩ (zz sec) := by
     unfold z3d z4q; rw [he, t1]; simp only [cond_true, cond_false, r]
    rw [TOK] at LEAF;exact LEAF _ _ hlt rfl rfl rfl (by show _ = (h.out ++ zz sec).length; rw [List.length_append])
  refine zx.2 ⟨fun t2 => ?_, fun t2 => ?_⟩
  · -- S
   have lq : (zz h.s.own).length = 32 := z29 _;have ls : (z2b h.s.sh h.s.ck h.s.n h.s.hs (zz h.s.own)).length ≤ 48 := by
    rw [zb1, lq]; cases h.s.sh with
    | true => simp only [cond_true]; omega
    | false => simp only [cond_false]; omega
   rw [all0];refine ze.2 ⟨by rw [lh, zp (by omega), hK]; rfl, ze.2 ⟨by rw [zp (by omega)]; rfl, ze.2 ⟨beq_self_eq_true _, ze.2 ⟨zp (by omega), ?_⟩⟩⟩⟩
   have TOK : z3d sec h t = zbn (zz h.s.own) h := by unfold z3d; rw [he, t1, t2]; rfl
   rw [TOK] at LEAF;exact LEAF _ _ hlt rfl rfl rfl (by show _ = (h.out ++ z2b _ _ _ _ _).length; rw [List.length_append])
  have half : ∀ (saw : Bool) (x y : List UInt8), z3d sec h t = dhH true saw x y h → za (bif false then true else !saw) (z1t p s fb sec b i (wr .i64 (((i : Nat) : Int) + 1)) h.out.length ⟨h.s, h.out, [], 5⟩)
    (za (!z3e x y) (z1t p s fb sec b i (wr .i64 (((i : Nat) : Int) + 1)) h.out.length ⟨h.s, h.out, [], 12⟩)
     (cnd (leB h.s.ch.length 64 && leB (dhS x y).length 100000) (z1t p s fb sec b i (wr .i64 (((i : Nat) : Int) + 1)) h.out.length ⟨(z7w h (dhS x y)).s, h.out, [], h.e⟩))) := by
   intro saw x y TOK;refine zx.2 ⟨fun q => ?_, fun q => zx.2 ⟨fun r => ?_, fun r => ze.2 ⟨by rw [lc, ld]; rfl, ?_⟩⟩⟩
   ·have q : saw = false := by simpa using q
    have TOK2 : z3d sec h t = z5j h 5 := by rw [TOK, dhH, q]; rfl
    rw [TOK2] at LEAF;exact LEAF _ _ hlt rfl rfl rfl rfl
   ·have q : saw = true := by simpa using q
    have r : z3e x y = false := by simpa using r
    have TOK2 : z3d sec h t = z5j h 12 := by rw [TOK, dhH, q, r]; rfl
    rw [TOK2] at LEAF;exact LEAF _ _ hlt rfl rfl rfl rfl
   ·have q : saw = true := by simpa using q
    have r : z3e x y = true := by simpa using r
    have TOK2 : z3d sec h t = z7w h (dhS x y) := by rw [TOK, dhH, q, r]; rfl
    rw [TOK2] at LEAF;exact LEAF _ _ hlt rfl rfl rfl rfl
  have full : ∀ (own saw : Bool) (x y : List UInt8), z3d sec h t = dhH own saw x y h → za (!own) (z1t p s fb sec b i (wr .i64 (((i : Nat) : Int) + 1)) h.out.length ⟨h.s, h.out, [], 5⟩) (za (bif false then true else !saw) (z1t p s fb sec b i (wr .i64 (((i : Nat) : Int) + 1)) h.out.length ⟨h.s, h.out, [], 5⟩)
    (za (!z3e x y) (z1t p s fb sec b i (wr .i64 (((i : Nat) : Int) + 1)) h.out.length ⟨h.s, h.out, [], 12⟩)
     (cnd (leB h.s.ch.length 64 && leB (dhS x y).length 100000) (z1t p s fb sec b i (wr .i64 (((i : Nat) : Int) + 1)) h.out.length ⟨(z7w h (dhS x y)).s, h.out, [], h.e⟩)))) := by
   intro own saw x y TOK;refine zx.2 ⟨fun q => ?_, fun q => half saw x y ?_⟩
   ·have q : own = false := by simpa using q
    have TOK2 : z3d sec h t = z5j h 5 := by rw [TOK, dhH, q]; rfl
    rw [TOK2] at LEAF;exact LEAF _ _ hlt rfl rfl rfl rfl
   ·have q : own = true := by simpa using q
    rw [TOK, q]
  refine zx.2 ⟨fun t3 => ?_, fun t3 => ?_⟩
  ·exact full _ _ _ _ (by unfold z3d z1v; rw [he, t1, t2, t3]; rfl)
  refine zx.2 ⟨fun t6 => ?_, fun t6 => ?_⟩
  ·exact half _ _ _ (by unfold z3d z1v; rw [he, t1, t2, t3, t6]; rfl)
  refine zx.2 ⟨fun t7 => ?_, fun t7 => ?_⟩
  ·refine zx.2 ⟨fun q => ?_, fun q => ?_⟩
   ·have q : decide ((h.s.psks.length : Int) ≤ h.s.used) = true := by
     rw [z1p] at q;exact decide_eq_true (by simpa using q)
    have TOK : z3d sec h t = z5j h 5 := by unfold z3d z1v; rw [he, t1, t2, t3, t6, t7, q]; rfl
    rw [TOK] at LEAF;exact LEAF _ _ hlt rfl rfl rfl rfl
   ·have q1 : h.s.used < (h.s.psks.length : Int) := by
     rw [z1p] at q;simpa using q
    have q : decide ((h.s.psks.length : Int) ≤ h.s.used) = false := decide_eq_false (by omega)
    have lp : (h.s.psks.getD (Int.toNat h.s.used) []).length = 32 := by
     have := G.us;rw [List.getD_eq_getElem?_getD, List.getElem?_eq_getElem (by omega)]
     exact G.ps _ (List.getElem_mem _)
    refine ze.2 ⟨by rw [z3x G.us q1]; rfl, ze.2 ⟨by rw [lc, zp (by omega), zp (by have := G.hs; omega)]; rfl, ?_⟩⟩
    have TOK : z3d sec h t = zih h := by unfold z3d z1v; rw [he, t1, t2, t3, t6, t7, q]; rfl
    rw [TOK] at LEAF;refine LEAF _ _ hlt ?_ rfl rfl rfl;have : wr .i64 (h.s.used + 1) = h.s.used + 1 := z2o (by have := G.us; omega) (by have := S.psks; have := zgf hp; rw [S.psks] at q1; omega)
    rw [this]
    try rfl
  refine zx.2 ⟨fun t4 => ?_, fun t4 => ?_⟩
  ·exact full _ _ _ _ (by unfold z3d z1v; rw [he, t1, t2, t3, t6, t7, t4]; rfl)
  ·exact half _ _ _ (by unfold z3d z1v; rw [he, t1, t2, t3, t6, t7, t4]; rfl)
 ·have hi2 : i = (z12 p s).length := by
   rw [z1p, decide_eq_false_iff_not] at hge; omega
  have hR : hdW p s sec (z12 p s).length = h := by rw [← hi2]; exact hH
  have dead : ∀ e, z2c p s sec b = ({ s with dead := true }, [], e) → cnd (isSh (shC p { s with dead := true })) (okOut (z7q p (z2c p s sec b)) (.tup [.agg (shC p { s with dead := true }), .vec8 true [], .int .i64 e]) []) := fun e he => ze.2 ⟨zc6 hp hl, zg4 he⟩
  refine zx.2 ⟨fun he => ze.2 ⟨by rw [lh, zp (by omega), hK]; rfl, ?_⟩, fun he => ?_⟩
  ·have hne : (h.e != 0) = false := by unfold bne; rw [he]; rfl
   simp only [he, hne, Go.V.ite2_true, Go.V.ite2_false];have ls : (z2b h.s.sh h.s.ck h.s.n h.s.hs b).length ≤ 416 := by
    rw [zb1]; cases h.s.sh with
    | true => simp only [cond_true]; omega
    | false => simp only [cond_false]; omega
   have hw : wr .i64 (h.s.turn + 1) = s.turn + 1 := by rw [S.turn]; exact z2o (by omega) (by omega)
   have hx : z2c p s sec b = ({ (zbn b h).s with turn := s.turn + 1 }, (zbn b h).out, 0) := by
    rw [z8l, z9i, hmay, h6, hR, he]; rfl
   rw [hw];rw [all0];refine ze.2 ⟨by rw [zp (by omega)]; rfl, ze.2 ⟨beq_self_eq_true _, ze.2 ⟨zp (by have := O; omega), ?_⟩⟩⟩
   exact ze.2 ⟨zc6 (p := p) (s := { (zbn b h).s with turn := s.turn + 1 }) hp (by show h.s.psks.length = _; rw [S.psks]; exact hl), z19p hx (by show _ = (h.out ++ z2b _ _ _ _ _).length; rw [List.length_append])⟩
  ·have hne : (h.e != 0) = true := by unfold bne; rw [he]; rfl
   simp only [he, hne, Go.V.ite2_true, Go.V.ite2_false];exact dead _ (by rw [z8l, z9i, hmay, h6, hR, he]; rfl)
def preC : Nat → List Int × List Int
 | 0 => ([], [])
 | 1 => ([], [2])
 | 2 => ([2], [2])
 | _ => ([1], [])
def isC (c : Nat) (p : Pat) : Bool := p.pre0 == (preC c).1 && p.pre1 == (preC c).2
theorem cls {p : Pat} (h : p ∈ z2e) : isC 0 p = true ∨ isC 1 p = true ∨ isC 2 p = true ∨ isC 3 p = true := by
 have : (z2e.all fun p => isC 0 p || (isC 1 p || (isC 2 p || isC 3 p))) = true := by kernel_rfl
 have := List.all_eq_true.1 this p h;simpa only [Bool.or_eq_true] using this
def patM (c : Nat) (p : Pat) : AV := .agg [.str p.base, .bool p.late, .vecr false 1 p.psks.length (intF p.psks), vL (preC c).1, vL (preC c).2, .vecr false 1 p.turns.length (trF p.turns)]
theorem z12g (c : Nat) (p : Pat) : z1a (patM c p) = true := by
 show zw _ = true;simp only [zw, z1a, zc1, Bool.and_self]
theorem z15u {c : Nat} {p : Pat} (h : isC c p = true) : leV (zi3 p) (patM c p) := by
 simp only [isC, Bool.and_eq_true, beq_iff_eq] at h;refine zqc ?_;unfold zrr;rw [h.1, h.2];exact RLe.same (RLe.same (RLe.same (RLe.cons (Re.of rfl (by simp) rfl rfl (by simp [vL]) (z8y _)) (RLe.cons (Re.of rfl (by simp) rfl rfl (by simp [vL]) (z8y _)) (RLe.refl _)))))
theorem z1ev (p : Pat) : leV (z9k p) (zi3 p) :=
 zqc (RLe.same (RLe.same (RLe.cons (Re.of (a := vL _) rfl (by simp [vL]) rfl rfl (by simp) (z8h _)) (RLe.cons (Re.of (a := vL _) rfl (by simp [vL]) rfl rfl (by simp) (z8h _)) (RLe.cons (Re.of (a := vL _) rfl (by simp [vL]) rfl rfl (by simp) (z8h _)) (RLe.cons (Re.of (a := vLL _) rfl (by simp [vLL]) rfl rfl (by simp) (zxr _)) (RLe.refl _)))))))
noncomputable def zy (s : List UInt8) : Pat := @dite _ (∃ p ∈ z2e, z1f p = s) (Classical.propDecidable _) (fun h => Classical.choose h) (fun _ => default)
theorem zyu {s : List UInt8} (h : ∃ p ∈ z2e, z1f p = s) : zy s ∈ z2e ∧ z1f (zy s) = s := by
 unfold zy;rw [dif_pos h];exact Classical.choose_spec h
theorem z15a {p q : Pat} (hp : p ∈ z2e) (hq : q ∈ z2e) (h : z1f p = z1f q) : p = q := by
 have : (zos.all fun x => zos.all fun y => !(x.1 == y.1) || decide (x.2 = y.2)) = true := by kernel_rfl
 have := List.all_eq_true.1 (List.all_eq_true.1 this _ (zfy hp)) _ (zfy hq);simp only [Bool.or_eq_true, Bool.not_eq_true', beq_eq_false_iff_ne, decide_eq_true_eq] at this;exact this.resolve_left fun k => k h
theorem zbk {p : Pat} (hp : p ∈ z2e) : zy (z1f p) = p :=
 have h := zyu ⟨p, hp, rfl⟩
 z15a h.1 hp h.2
noncomputable def isNF (c : Nat) (s : List UInt8) : Bool := yes (∃ p ∈ z2e, z1f p = s ∧ isC c p = true)
noncomputable def isN : Nat → List UInt8 → Bool := (zf isNF).val
theorem zf2 {c : Nat} {s : List UInt8} : isN c s = true ↔ ∃ p ∈ z2e, z1f p = s ∧ isC c p = true := by rw [isN, (zf isNF).property]; exact zep
noncomputable def Pc (c : Nat) : Ctr Tryz.E := (Ctr.nil Tryz.E).add 17 (fun
  | [.str s] => some (isN c s, .ret (.tup [patM c (zy s), .int .i64 0]) [])
  | _ => none) (by
   intro args pre out h hp
   split at h
   ·rename_i s;obtain ⟨rfl, rfl⟩ := spE h;obtain ⟨p, h1, rfl, h3⟩ := zf2.1 hp;rw [zbk h1];exact HCall.weak (z1bj p h1) (z9m (z1b ((z1ev p).trans (z15u h3)) (z1b (leV.refl _) z4w))) (z41 _ (by show zw _ = true; rw [zw, z12g]; rfl) _)
   ·simp at h)
def erB (e : Int) : AV := .tup [.agg [.agg [.str [], .bool false, .vec true 1 [], .agg [.vec true 1 [], .vec true 1 []], .vec true 1 []], .bool false, .int .i64 0, .bool false, .agg [.agg [.bool false, .b8 32 [0, 0, 0, 0, 0, 0, 0, 0, 0, 0, 0, 0, 0, 0, 0, 0, 0, 0, 0, 0, 0, 0, 0, 0, 0, 0, 0, 0, 0, 0, 0, 0], .u64 0], .b8 32 [0, 0, 0, 0, 0, 0, 0, 0, 0, 0, 0, 0, 0, 0, 0, 0, 0, 0, 0, 0, 0, 0, 0, 0, 0, 0, 0, 0, 0, 0, 0, 0], .b8 32 [0, 0, 0, 0, 0, 0, 0, 0, 0, 0, 0, 0, 0, 0, 0, 0, 0, 0, 0, 0, 0, 0, 0, 0, 0, 0, 0, 0, 0, 0, 0, 0]], .b8 32 [0, 0, 0, 0, 0, 0, 0, 0, 0, 0, 0, 0, 0, 0, 0, 0, 0, 0, 0, 0, 0, 0, 0, 0, 0, 0, 0, 0, 0, 0, 0, 0], .b8 32 [0, 0, 0, 0, 0, 0, 0, 0, 0, 0, 0, 0, 0, 0, 0, 0, 0, 0, 0, 0, 0, 0, 0, 0, 0, 0, 0, 0, 0, 0, 0, 0], .bool false, .b8 32 [0, 0, 0, 0, 0, 0, 0, 0, 0, 0, 0, 0, 0, 0, 0, 0, 0, 0, 0, 0, 0, 0, 0, 0, 0, 0, 0, 0, 0, 0, 0, 0], .bool false, .b8 32 [0, 0, 0, 0, 0, 0, 0, 0, 0, 0, 0, 0, 0, 0, 0, 0, 0, 0, 0, 0, 0, 0, 0, 0, 0, 0, 0, 0, 0, 0, 0, 0], .bool false, .vec true 32 [], .int .i64 0], .int .i64 e]
noncomputable def KB (c : Nat) : Ctr Tryz.E := Ctr.or (Pc c) (Ctr.or M1 (Ctr.or Y6 Y4))
theorem z1du (name : List UInt8) (first fp : Bool) (pro own their : List UInt8) (knows : Bool) (early : List UInt8) (psks : List (List UInt8)) (K : AV → zc → Prop) : walk Tryz.E RSh (KB 0).C (fun _ _ => .unroll 5) 6 6 [.str name, .bool first, .vec8 fp pro, .b8 32 own, .b8 32 their, .bool knows, .b8 32 early, .vecr false 32 psks.length (keyF psks)] K = (
 let x0 : Nat := (List.length pro)
 let x1 : List UInt8 := [0, 0, 0, 0, 0, 0, 0, 0, 0, 0, 0, 0, 0, 0, 0, 0, 0, 0, 0, 0, 0, 0, 0, 0, 0, 0, 0, 0, 0, 0, 0, 0]
 let x2 : Nat := (List.length psks)
 let x3 : List Int := (Pat.Pat.psks (zy name))
 let x4 : Nat := (List.length x3)
 let x5 : List (List Int) := (Pat.Pat.turns (zy name))
 cnd (isN 0 name)
 (za (ltI 200 ((x0 : Nat) : Int))
 (K (erB 1) [])
 (za (cond false true (((x2 : Nat) : Int) != ((x4 : Nat) : Int)))
 (K (erB 1) [])
 (za (Bool.not knows)
 (za (cond true (Bool.not (their == x1)) false)
 (K (erB 3) [])
 (cnd (leB (List.length name) 1000000)
 (cnd (leB ((List.length (zu name)) + x0) 1000000)
 (cnd (leB (x2 * 32) 140737488355328)
 (K (AV.tup [AV.agg [AV.agg [AV.str (Pat.Pat.base (zy name)), AV.bool (Pat.Pat.late (zy name)), AV.vecr false 1 x4 (Pat.intF x3), AV.vec false 1 [], AV.vec false 1 [], AV.vecr false 1 (List.length x5) (Pat.trF x5)], AV.bool first, AV.int .i64 0, AV.bool false, AV.agg [AV.bool false, AV.b8 32 zn, AV.u64 0, AV.b8 32 (zu name), AV.b8 32 (Bla.sumS ((zu name) ++ pro))], AV.b8 32 own, AV.b8 32 x1, AV.bool false, AV.b8 32 their, AV.bool knows, AV.b8 32 x1, AV.bool false, AV.slv 0 32 x2 (Shk.keyF psks), AV.int .i64 0], AV.int .i64 0]) [Ent.tail 32 x2])))))
 (cnd (leB (List.length name) 1000000)
 (cnd (leB ((List.length (zu name)) + x0) 1000000)
 (cnd (leB (x2 * 32) 140737488355328)
 (K (AV.tup [AV.agg [AV.agg [AV.str (Pat.Pat.base (zy name)), AV.bool (Pat.Pat.late (zy name)), AV.vecr false 1 x4 (Pat.intF x3), AV.vec false 1 [], AV.vec false 1 [], AV.vecr false 1 (List.length x5) (Pat.trF x5)], AV.bool first, AV.int .i64 0, AV.bool false, AV.agg [AV.bool false, AV.b8 32 zn, AV.u64 0, AV.b8 32 (zu name), AV.b8 32 (Bla.sumS ((zu name) ++ pro))], AV.b8 32 own, AV.b8 32 x1, AV.bool false, AV.b8 32 their, AV.bool knows, AV.b8 32 x1, AV.bool false, AV.slv 0 32 x2 (Shk.keyF psks), AV.int .i64 0], AV.int .i64 0]) [Ent.tail 32 x2])))))))) := by kernel_rfl
theorem z1d6 (name : List UInt8) (first fp : Bool) (pro own their : List UInt8) (knows : Bool) (early : List UInt8) (psks : List (List UInt8)) (K : AV → zc → Prop) : walk Tryz.E RSh (KB 1).C (fun _ _ => .unroll 5) 6 6 [.str name, .bool first, .vec8 fp pro, .b8 32 own, .b8 32 their, .bool knows, .b8 32 early, .vecr false 32 psks.length (keyF psks)] K = (
 let x0 : Nat := (List.length pro)
 let x1 : List UInt8 := [0, 0, 0, 0, 0, 0, 0, 0, 0, 0, 0, 0, 0, 0, 0, 0, 0, 0, 0, 0, 0, 0, 0, 0, 0, 0, 0, 0, 0, 0, 0, 0]
 let x2 : Nat := (List.length psks)
 let x3 : List Int := (Pat.Pat.psks (zy name))
 let x4 : Nat := (List.length x3)
 let x5 : Bool := Bool.not knows
 let x6 : List UInt8 := (Bla.sumS ((zu name) ++ pro))
 let x7 : Nat := (List.length x6)
 let x8 : List (List Int) := (Pat.Pat.turns (zy name))
 let x9 : List Ent := [Ent.tail 32 x2]
 cnd (isN 1 name)
 (za (ltI 200 ((x0 : Nat) : Int))
 (K (erB 1) [])
 (za (cond false true (((x2 : Nat) : Int) != ((x4 : Nat) : Int)))
 (K (erB 1) [])
 (za (x5)
 (za (cond true (Bool.not (their == x1)) false)
 (K (erB 3) [])
 (cnd (leB (List.length name) 1000000)
 (cnd (leB ((List.length (zu name)) + x0) 1000000)
 (cnd (leB (x2 * 32) 140737488355328)
 (za (cond true (first == false) false)
 (cnd (leB (x7 + (List.length (zz own))) 1000000)
 (K (AV.tup [AV.agg [AV.agg [AV.str (Pat.Pat.base (zy name)), AV.bool (Pat.Pat.late (zy name)), AV.vecr false 1 x4 (Pat.intF x3), AV.vec false 1 [], AV.vec false 1 [AV.int .i64 2], AV.vecr false 1 (List.length x8) (Pat.trF x8)], AV.bool first, AV.int .i64 0, AV.bool false, AV.agg [AV.bool false, AV.b8 32 zn, AV.u64 0, AV.b8 32 (zu name), AV.b8 32 (Bla.sumS (x6 ++ (zz own)))], AV.b8 32 own, AV.b8 32 x1, AV.bool false, AV.b8 32 their, AV.bool knows, AV.b8 32 x1, AV.bool false, AV.slv 0 32 x2 (Shk.keyF psks), AV.int .i64 0], AV.int .i64 0]) x9))
 (za (x5)
 (K (erB 5) [])
 (cnd (leB (x7 + (List.length their)) 1000000)
 (K (AV.tup [AV.agg [AV.agg [AV.str (Pat.Pat.base (zy name)), AV.bool (Pat.Pat.late (zy name)), AV.vecr false 1 x4 (Pat.intF x3), AV.vec false 1 [], AV.vec false 1 [AV.int .i64 2], AV.vecr false 1 (List.length x8) (Pat.trF x8)], AV.bool first, AV.int .i64 0, AV.bool false, AV.agg [AV.bool false, AV.b8 32 zn, AV.u64 0, AV.b8 32 (zu name), AV.b8 32 (Bla.sumS (x6 ++ their))], AV.b8 32 own, AV.b8 32 x1, AV.bool false, AV.b8 32 their, AV.bool knows, AV.b8 32 x1, AV.bool false, AV.slv 0 32 x2 (Shk.keyF psks), AV.int .i64 0], AV.int .i64 0]) x9))))))))
 (cnd (leB (List.length name) 1000000)
 (cnd (leB ((List.length (zu name)) + x0) 1000000)
 (cnd (leB (x2 * 32) 140737488355328)
 (za (cond true (first == false) false)
 (cnd (leB (x7 + (List.length (zz own))) 1000000)
 (K (AV.tup [AV.agg [AV.agg [AV.str (Pat.Pat.base (zy name)), AV.bool (Pat.Pat.late (zy name)), AV.vecr false 1 x4 (Pat.intF x3), AV.vec false 1 [], AV.vec false 1 [AV.int .i64 2], AV.vecr false 1 (List.length x8) (Pat.trF x8)], AV.bool first, AV.int .i64 0, AV.bool false, AV.agg [AV.bool false, AV.b8 32 zn, AV.u64 0, AV.b8 32 (zu name), AV.b8 32 (Bla.sumS (x6 ++ (zz own)))], AV.b8 32 own, AV.b8 32 x1, AV.bool false, AV.b8 32 their, AV.bool knows, AV.b8 32 x1, AV.bool false, AV.slv 0 32 x2 (Shk.keyF psks), AV.int .i64 0], AV.int .i64 0]) x9))
 (za (x5)
 (K (erB 5) [])
 (cnd (leB (x7 + (List.length their)) 1000000)
 (K (AV.tup [AV.agg [AV.agg [AV.str (Pat.Pat.base (zy name)), AV.bool (Pat.Pat.late (zy name)), AV.vecr false 1 x4 (Pat.intF x3), AV.vec false 1 [], AV.vec false 1 [AV.int .i64 2], AV.vecr false 1 (List.length x8) (Pat.trF x8)], AV.bool first, AV.int .i64 0, AV.bool false, AV.agg [AV.bool false, AV.b8 32 zn, AV.u64 0, AV.b8 32 (zu name), AV.b8 32 (Bla.sumS (x6 ++ their))], AV.b8 32 own, AV.b8 32 x1, AV.bool false, AV.b8 32 their, AV.bool knows, AV.b8 32 x1, AV.bool false, AV.slv 0 32 x2 (Shk.keyF psks), AV.int .i64 0], AV.int .i64 0]) x9))))))))))) := by kernel_rfl
theorem z1e2 (name : List UInt8) (first fp : Bool) (pro own their : List UInt8) (knows : Bool) (early : List UInt8) (psks : List (List UInt8)) (K : AV → zc → Prop) : walk Tryz.E RSh (KB 2).C (fun _ _ => .unroll 5) 6 6 [.str name, .bool first, .vec8 fp pro, .b8 32 own, .b8 32 their, .bool knows, .b8 32 early, .vecr false 32 psks.length (keyF psks)] K = (
 let x0 : Nat := (List.length pro)
 let x1 : List UInt8 := [0, 0, 0, 0, 0, 0, 0, 0, 0, 0, 0, 0, 0, 0, 0, 0, 0, 0, 0, 0, 0, 0, 0, 0, 0, 0, 0, 0, 0, 0, 0, 0]
 let x2 : Nat := (List.length psks)
 let x3 : List Int := (Pat.Pat.psks (zy name))
 let x4 : Nat := (List.length x3)
 let x5 : Bool := Bool.not knows
 let x6 : List UInt8 := (Bla.sumS ((zu name) ++ pro))
 let x7 : Nat := (List.length x6)
 let x8 : Nat := (List.length (zz own))
 let x9 : Bool := cond true (first == false) false
 let x10 : List UInt8 := (Bla.sumS (x6 ++ (zz own)))
 let x11 : Nat := (List.length x10)
 let x12 : List (List Int) := (Pat.Pat.turns (zy name))
 let x13 : List Ent := [Ent.tail 32 x2]
 let x14 : Nat := (List.length their)
 let x15 : List UInt8 := (Bla.sumS (x6 ++ their))
 let x16 : Nat := (List.length x15)
 cnd (isN 2 name)
 (za (ltI 200 ((x0 : Nat) : Int))
 (K (erB 1) [])
 (za (cond false true (((x2 : Nat) : Int) != ((x4 : Nat) : Int)))
 (K (erB 1) [])
 (za (x5)
 (za (cond true (Bool.not (their == x1)) false)
 (K (erB 3) [])
 (cnd (leB (List.length name) 1000000)
 (cnd (leB ((List.length (zu name)) + x0) 1000000)
 (cnd (leB (x2 * 32) 140737488355328)
 (za (cond true (first == true) false)
 (cnd (leB (x7 + x8) 1000000)
 (za (x9)
 (cnd (leB (x11 + x8) 1000000)
 (K (AV.tup [AV.agg [AV.agg [AV.str (Pat.Pat.base (zy name)), AV.bool (Pat.Pat.late (zy name)), AV.vecr false 1 x4 (Pat.intF x3), AV.vec false 1 [AV.int .i64 2], AV.vec false 1 [AV.int .i64 2], AV.vecr false 1 (List.length x12) (Pat.trF x12)], AV.bool first, AV.int .i64 0, AV.bool false, AV.agg [AV.bool false, AV.b8 32 zn, AV.u64 0, AV.b8 32 (zu name), AV.b8 32 (Bla.sumS (x10 ++ (zz own)))], AV.b8 32 own, AV.b8 32 x1, AV.bool false, AV.b8 32 their, AV.bool knows, AV.b8 32 x1, AV.bool false, AV.slv 0 32 x2 (Shk.keyF psks), AV.int .i64 0], AV.int .i64 0]) x13))
 (za (x5)
 (K (erB 5) [])
 (cnd (leB (x11 + x14) 1000000)
 (K (AV.tup [AV.agg [AV.agg [AV.str (Pat.Pat.base (zy name)), AV.bool (Pat.Pat.late (zy name)), AV.vecr false 1 x4 (Pat.intF x3), AV.vec false 1 [AV.int .i64 2], AV.vec false 1 [AV.int .i64 2], AV.vecr false 1 (List.length x12) (Pat.trF x12)], AV.bool first, AV.int .i64 0, AV.bool false, AV.agg [AV.bool false, AV.b8 32 zn, AV.u64 0, AV.b8 32 (zu name), AV.b8 32 (Bla.sumS (x10 ++ their))], AV.b8 32 own, AV.b8 32 x1, AV.bool false, AV.b8 32 their, AV.bool knows, AV.b8 32 x1, AV.bool false, AV.slv 0 32 x2 (Shk.keyF psks), AV.int .i64 0], AV.int .i64 0]) x13)))))
 (za (x5)
 (K (erB 5) [])
 (cnd (leB (x7 + x14) 1000000)
 (za (x9)
 (cnd (leB (x16 + x8) 1000000)
 (K (AV.tup [AV.agg [AV.agg [AV.str (Pat.Pat.base (zy name)), AV.bool (Pat.Pat.late (zy name)), AV.vecr false 1 x4 (Pat.intF x3), AV.vec false 1 [AV.int .i64 2], AV.vec false 1 [AV.int .i64 2], AV.vecr false 1 (List.length x12) (Pat.trF x12)], AV.bool first, AV.int .i64 0, AV.bool false, AV.agg [AV.bool false, AV.b8 32 zn, AV.u64 0, AV.b8 32 (zu name), AV.b8 32 (Bla.sumS (x15 ++ (zz own)))], AV.b8 32 own, AV.b8 32 x1, AV.bool false, AV.b8 32 their, AV.bool knows, AV.b8 32 x1, AV.bool false, AV.slv 0 32 x2 (Shk.keyF psks), AV.int .i64 0], AV.int .i64 0]) x13))
 (za (x5)
 (K (erB 5) [])
 (cnd (leB (x16 + x14) 1000000)
 (K (AV.tup [AV.agg [AV.agg [AV.str (Pat.Pat.base (zy name)), AV.bool (Pat.Pat.late (zy name)), AV.vecr false 1 x4 (Pat.intF x3), AV.vec false 1 [AV.int .i64 2], AV.vec false 1 [AV.int .i64 2], AV.vecr false 1 (List.length x12) (Pat.trF x12)], AV.bool first, AV.int .i64 0, AV.bool false, AV.agg [AV.bool false, AV.b8 32 zn, AV.u64 0, AV.b8 32 (zu name), AV.b8 32 (Bla.sumS (x15 ++ their))], AV.b8 32 own, AV.b8 32 x1, AV.bool false, AV.b8 32 their, AV.bool knows, AV.b8 32 x1, AV.bool false, AV.slv 0 32 x2 (Shk.keyF psks), AV.int .i64 0], AV.int .i64 0]) x13)))))))))))
 (cnd (leB (List.length name) 1000000)
 (cnd (leB ((List.length (zu name)) + x0) 1000000)
 (cnd (leB (x2 * 32) 140737488355328)
 (za (cond true (first == true) false)
 (cnd (leB (x7 + x8) 1000000)
 (za (x9)
 (cnd (leB (x11 + x8) 1000000)
 (K (AV.tup [AV.agg [AV.agg [AV.str (Pat.Pat.base (zy name)), AV.bool (Pat.Pat.late (zy name)), AV.vecr false 1 x4 (Pat.intF x3), AV.vec false 1 [AV.int .i64 2], AV.vec false 1 [AV.int .i64 2], AV.vecr false 1 (List.length x12) (Pat.trF x12)], AV.bool first, AV.int .i64 0, AV.bool false, AV.agg [AV.bool false, AV.b8 32 zn, AV.u64 0, AV.b8 32 (zu name), AV.b8 32 (Bla.sumS (x10 ++ (zz own)))], AV.b8 32 own, AV.b8 32 x1, AV.bool false, AV.b8 32 their, AV.bool knows, AV.b8 32 x1, AV.bool false, AV.slv 0 32 x2 (Shk.keyF psks), AV.int .i64 0], AV.int .i64 0]) x13))
 (za (x5)
 (K (erB 5) [])
 (cnd (leB (x11 + x14) 1000000)
 (K (AV.tup [AV.agg [AV.agg [AV.str (Pat.Pat.base (zy name)), AV.bool (Pat.Pat.late (zy name)), AV.vecr false 1 x4 (Pat.intF x3), AV.vec false 1 [AV.int .i64 2], AV.vec false 1 [AV.int .i64 2], AV.vecr false 1 (List.length x12) (Pat.trF x12)], AV.bool first, AV.int .i64 0, AV.bool false, AV.agg [AV.bool false, AV.b8 32 zn, AV.u64 0, AV.b8 32 (zu name), AV.b8 32 (Bla.sumS (x10 ++ their))], AV.b8 32 own, AV.b8 32 x1, AV.bool false, AV.b8 32 their, AV.bool knows, AV.b8 32 x1, AV.bool false, AV.slv 0 32 x2 (Shk.keyF psks), AV.int .i64 0], AV.int .i64 0]) x13)))))
 (za (x5)
 (K (erB 5) [])
 (cnd (leB (x7 + x14) 1000000)
 (za (x9)
 (cnd (leB (x16 + x8) 1000000)
 (K (AV.tup [AV.agg [AV.agg [AV.str (Pat.Pat.base (zy name)), AV.bool (Pat.Pat.late (zy name)), AV.vecr false 1 x4 (Pat.intF x3), AV.vec false 1 [AV.int .i64 2], AV.vec false 1 [AV.int .i64 2], AV.vecr false 1 (List.length x12) (Pat.trF x12)], AV.bool first, AV.int .i64 0, AV.bool false, AV.agg [AV.bool false, AV.b8 32 zn, AV.u64 0, AV.b8 32 (zu name), AV.b8 32 (Bla.sumS (x15 ++ (zz own)))], AV.b8 32 own, AV.b8 32 x1, AV.bool false, AV.b8 32 their, AV.bool knows, AV.b8 32 x1, AV.bool false, AV.slv 0 32 x2 (Shk.keyF psks), AV.int .i64 0], AV.int .i64 0]) x13))
 (za (x5)
 (K (erB 5) [])
 (cnd (leB (x16 + x14) 1000000)
 (K (AV.tup [AV.agg [AV.agg [AV.str (Pat.Pat.base (zy name)), AV.bool (Pat.Pat.late (zy name)), AV.vecr false 1 x4 (Pat.intF x3), AV.vec false 1 [AV.int .i64 2], AV.vec false 1 [AV.int .i64 2], AV.vecr false 1 (List.length x12) (Pat.trF x12)], AV.bool first, AV.int .i64 0, AV.bool false, AV.agg [AV.bool false, AV.b8 32 zn, AV.u64 0, AV.b8 32 (zu name), AV.b8 32 (Bla.sumS (x15 ++ their))], AV.b8 32 own, AV.b8 32 x1, AV.bool false, AV.b8 32 their, AV.bool knows, AV.b8 32 x1, AV.bool false, AV.slv 0 32 x2 (Shk.keyF psks), AV.int .i64 0], AV.int .i64 0]) x13)))))))))))))) := by kernel_rfl
theorem z1fq (name : List UInt8) (first fp : Bool) (pro own their : List UInt8) (knows : Bool) (early : List UInt8) (psks : List (List UInt8)) (K : AV → zc → Prop) : walk Tryz.E RSh (KB 3).C (fun _ _ => .unroll 5) 6 6 [.str name, .bool first, .vec8 fp pro, .b8 32 own, .b8 32 their, .bool knows, .b8 32 early, .vecr false 32 psks.length (keyF psks)] K = (
 let x0 : Nat := (List.length pro)
 let x1 : List UInt8 := [0, 0, 0, 0, 0, 0, 0, 0, 0, 0, 0, 0, 0, 0, 0, 0, 0, 0, 0, 0, 0, 0, 0, 0, 0, 0, 0, 0, 0, 0, 0, 0]
 let x2 : Nat := (List.length psks)
 let x3 : Int := ((x2 : Nat) : Int)
 let x4 : List Int := (Pat.Pat.psks (zy name))
 let x5 : Nat := (List.length x4)
 let x6 : Nat := (List.length (zu name))
 let x7 : Bool := first == true
 let x8 : List UInt8 := (Bla.sumS ((zu name) ++ pro))
 let x9 : Nat := (List.length x8)
 let x10 : Nat := (List.length (zz early))
 let x11 : List AV := [AV.int .i64 1]
 let x12 : List (List Int) := (Pat.Pat.turns (zy name))
 let x13 : List Ent := [Ent.tail 32 x2]
 let x14 : Nat := (List.length early)
 cnd (isN 3 name)
 (za (ltI 200 ((x0 : Nat) : Int))
 (K (erB 1) [])
 (za (cond false true (x3 != ((x5 : Nat) : Int)))
 (K (erB 1) [])
 (za (Bool.not knows)
 (za (cond true (Bool.not (their == x1)) false)
 (K (erB 3) [])
 (cnd (leB (List.length name) 1000000)
 (cnd (leB (x6 + x0) 1000000)
 (cnd (leB (x2 * 32) 140737488355328)
 (za (x7)
 (cnd (leB (x9 + x10) 1000000)
 (za (ltI 0 x3)
 (cnd ((leB x6 64) && (leB x10 100000))
 (za (x7)
 (K (AV.tup [AV.agg [AV.agg [AV.str (Pat.Pat.base (zy name)), AV.bool (Pat.Pat.late (zy name)), AV.vecr false 1 x5 (Pat.intF x4), AV.vec false 1 x11, AV.vec false 1 [], AV.vecr false 1 (List.length x12) (Pat.trF x12)], AV.bool first, AV.int .i64 0, AV.bool false, AV.agg [AV.bool true, AV.b8 32 (z23 (zu name) (zz early)), AV.u64 0, AV.b8 32 (z25 (zu name) (zz early)), AV.b8 32 (Bla.sumS (x8 ++ (zz early)))], AV.b8 32 own, AV.b8 32 early, AV.bool true, AV.b8 32 their, AV.bool knows, AV.b8 32 x1, AV.bool false, AV.slv 0 32 x2 (Shk.keyF psks), AV.int .i64 0], AV.int .i64 0]) x13)
 (K (AV.tup [AV.agg [AV.agg [AV.str (Pat.Pat.base (zy name)), AV.bool (Pat.Pat.late (zy name)), AV.vecr false 1 x5 (Pat.intF x4), AV.vec false 1 x11, AV.vec false 1 [], AV.vecr false 1 (List.length x12) (Pat.trF x12)], AV.bool first, AV.int .i64 0, AV.bool false, AV.agg [AV.bool true, AV.b8 32 (z23 (zu name) (zz early)), AV.u64 0, AV.b8 32 (z25 (zu name) (zz early)), AV.b8 32 (Bla.sumS (x8 ++ (zz early)))], AV.b8 32 own, AV.b8 32 x1, AV.bool false, AV.b8 32 their, AV.bool knows, AV.b8 32 early, AV.bool true, AV.slv 0 32 x2 (Shk.keyF psks), AV.int .i64 0], AV.int .i64 0]) x13)))
 (za (x7)
 (K (AV.tup [AV.agg [AV.agg [AV.str (Pat.Pat.base (zy name)), AV.bool (Pat.Pat.late (zy name)), AV.vecr false 1 x5 (Pat.intF x4), AV.vec false 1 x11, AV.vec false 1 [], AV.vecr false 1 (List.length x12) (Pat.trF x12)], AV.bool first, AV.int .i64 0, AV.bool false, AV.agg [AV.bool false, AV.b8 32 zn, AV.u64 0, AV.b8 32 (zu name), AV.b8 32 (Bla.sumS (x8 ++ (zz early)))], AV.b8 32 own, AV.b8 32 early, AV.bool true, AV.b8 32 their, AV.bool knows, AV.b8 32 x1, AV.bool false, AV.slv 0 32 x2 (Shk.keyF psks), AV.int .i64 0], AV.int .i64 0]) x13)
 (K (AV.tup [AV.agg [AV.agg [AV.str (Pat.Pat.base (zy name)), AV.bool (Pat.Pat.late (zy name)), AV.vecr false 1 x5 (Pat.intF x4), AV.vec false 1 x11, AV.vec false 1 [], AV.vecr false 1 (List.length x12) (Pat.trF x12)], AV.bool first, AV.int .i64 0, AV.bool false, AV.agg [AV.bool false, AV.b8 32 zn, AV.u64 0, AV.b8 32 (zu name), AV.b8 32 (Bla.sumS (x8 ++ (zz early)))], AV.b8 32 own, AV.b8 32 x1, AV.bool false, AV.b8 32 their, AV.bool knows, AV.b8 32 early, AV.bool true, AV.slv 0 32 x2 (Shk.keyF psks), AV.int .i64 0], AV.int .i64 0]) x13))))
 (cnd (leB (x9 + x14) 1000000)
 (za (ltI 0 x3)
 (cnd ((leB x6 64) && (leB x14 100000))
 (za (x7)
 (K (AV.tup [AV.agg [AV.agg [AV.str (Pat.Pat.base (zy name)), AV.bool (Pat.Pat.late (zy name)), AV.vecr false 1 x5 (Pat.intF x4), AV.vec false 1 x11, AV.vec false 1 [], AV.vecr false 1 (List.length x12) (Pat.trF x12)], AV.bool first, AV.int .i64 0, AV.bool false, AV.agg [AV.bool true, AV.b8 32 (z23 (zu name) early), AV.u64 0, AV.b8 32 (z25 (zu name) early), AV.b8 32 (Bla.sumS (x8 ++ early))], AV.b8 32 own, AV.b8 32 early, AV.bool true, AV.b8 32 their, AV.bool knows, AV.b8 32 x1, AV.bool false, AV.slv 0 32 x2 (Shk.keyF psks), AV.int .i64 0], AV.int .i64 0]) x13)
 (K (AV.tup [AV.agg [AV.agg [AV.str (Pat.Pat.base (zy name)), AV.bool (Pat.Pat.late (zy name)), AV.vecr false 1 x5 (Pat.intF x4), AV.vec false 1 x11, AV.vec false 1 [], AV.vecr false 1 (List.length x12) (Pat.trF x12)], AV.bool first, AV.int .i64 0, AV.bool false, AV.agg [AV.bool true, AV.b8 32 (z23 (zu name) early), AV.u64 0, AV.b8 32 (z25 (zu name) early), AV.b8 32 (Bla.sumS (x8 ++ early))], AV.b8 32 own, AV.b8 32 x1, AV.bool false, AV.b8 32 their, AV.bool knows, AV.b8 32 early, AV.bool true, AV.slv 0 32 x2 (Shk.keyF psks), AV.int .i64 0], AV.int .i64 0]) x13)))
 (za (x7)
 (K (AV.tup [AV.agg [AV.agg [AV.str (Pat.Pat.base (zy name)), AV.bool (Pat.Pat.late (zy name)), AV.vecr false 1 x5 (Pat.intF x4), AV.vec false 1 x11, AV.vec false 1 [], AV.vecr false 1 (List.length x12) (Pat.trF x12)], AV.bool first, AV.int .i64 0, AV.bool false, AV.agg [AV.bool false, AV.b8 32 zn, AV.u64 0, AV.b8 32 (zu name), AV.b8 32 (Bla.sumS (x8 ++ early))], AV.b8 32 own, AV.b8 32 early, AV.bool true, AV.b8 32 their, AV.bool knows, AV.b8 32 x1, AV.bool false, AV.slv 0 32 x2 (Shk.keyF psks), AV.int .i64 0], AV.int .i64 0]) x13)
 (K (AV.tup [AV.agg [AV.agg [AV.str (Pat.Pat.base (zy name)), AV.bool (Pat.Pat.late (zy name)), AV.vecr false 1 x5 (Pat.intF x4), AV.vec false 1 x11, AV.vec false 1 [], AV.vecr false 1 (List.length x12) (Pat.trF x12)], AV.bool first, AV.int .i64 0, AV.bool false, AV.agg [AV.bool false, AV.b8 32 zn, AV.u64 0, AV.b8 32 (zu name), AV.b8 32 (Bla.sumS (x8 ++ early))], AV.b8 32 own, AV.b8 32 x1, AV.bool false, AV.b8 32 their, AV.bool knows, AV.b8 32 early, AV.bool true, AV.slv 0 32 x2 (Shk.keyF psks), AV.int .i64 0], AV.int .i64 0]) x13)))))))))
 (cnd (leB (List.length name) 1000000)
 (cnd (leB (x6 + x0) 1000000)
 (cnd (leB (x2 * 32) 140737488355328)
 (za (x7)
 (cnd (leB (x9 + x10) 1000000)
 (za (ltI 0 x3)
 (cnd ((leB x6 64) && (leB x10 100000))
 (za (x7)
 (K (AV.tup [AV.agg [AV.agg [AV.str (Pat.Pat.base (zy name)), AV.bool (Pat.Pat.late (zy name)), AV.vecr false 1 x5 (Pat.intF x4), AV.vec false 1 x11, AV.vec false 1 [], AV.vecr false 1 (List.length x12) (Pat.trF x12)], AV.bool first, AV.int .i64 0, AV.bool false, AV.agg [AV.bool true, AV.b8 32 (z23 (zu name) (zz early)), AV.u64 0, AV.b8 32 (z25 (zu name) (zz early)), AV.b8 32 (Bla.sumS (x8 ++ (zz early)))], AV.b8 32 own, AV.b8 32 early, AV.bool true, AV.b8 32 their, AV.bool knows, AV.b8 32 x1, AV.bool false, AV.slv 0 32 x2 (Shk.keyF psks), AV.int .i64 0], AV.int .i64 0]) x13)
 (K (AV.tup [AV.agg [AV.agg [AV.str (Pat.Pat.base (zy name)), AV.bool (Pat.Pat.late (zy name)), AV.vecr false 1 x5 (Pat.intF x4), AV.vec false 1 x11, AV.vec false 1 [], AV.vecr false 1 (List.length x12) (Pat.trF x12)], AV.bool first, AV.int .i64 0, AV.bool false, AV.agg [AV.bool true, AV.b8 32 (z23 (zu name) (zz early)), AV.u64 0, AV.b8 32 (z25 (zu name) (zz early)), AV.b8 32 (Bla.sumS (x8 ++ (zz early)))], AV.b8 32 own, AV.b8 32 x1, AV.bool false, AV.b8 32 their, AV.bool knows, AV.b8 32 early, AV.bool true, AV.slv 0 32 x2 (Shk.keyF psks), AV.int .i64 0], AV.int .i64 0]) x13)))
 (za (x7)
 (K (AV.tup [AV.agg [AV.agg [AV.str (Pat.Pat.base (zy name)), AV.bool (Pat.Pat.late (zy name)), AV.vecr false 1 x5 (Pat.intF x4), AV.vec false 1 x11, AV.vec false 1 [], AV.vecr false 1 (List.length x12) (Pat.trF x12)], AV.bool first, AV.int .i64 0, AV.bool false, AV.agg [AV.bool false, AV.b8 32 zn, AV.u64 0, AV.b8 32 (zu name), AV.b8 32 (Bla.sumS (x8 ++ (zz early)))], AV.b8 32 own, AV.b8 32 early, AV.bool true, AV.b8 32 their, AV.bool knows, AV.b8 32 x1, AV.bool false, AV.slv 0 32 x2 (Shk.keyF psks), AV.int .i64 0], AV.int .i64 0]) x13)
 (K (AV.tup [AV.agg [AV.agg [AV.str (Pat.Pat.base (zy name)), AV.bool (Pat.Pat.late (zy name)), AV.vecr false 1 x5 (Pat.intF x4), AV.vec false 1 x11, AV.vec false 1 [], AV.vecr false 1 (List.length x12) (Pat.trF x12)], AV.bool first, AV.int .i64 0, AV.bool false, AV.agg [AV.bool false, AV.b8 32 zn, AV.u64 0, AV.b8 32 (zu name), AV.b8 32 (Bla.sumS (x8 ++ (zz early)))], AV.b8 32 own, AV.b8 32 x1, AV.bool false, AV.b8 32 their, AV.bool knows, AV.b8 32 early, AV.bool true, AV.slv 0 32 x2 (Shk.keyF psks), AV.int .i64 0], AV.int .i64 0]) x13))))
 (cnd (leB (x9 + x14) 1000000)
 (za (ltI 0 x3)
 (cnd ((leB x6 64) && (leB x14 100000))
 (za (x7)
 (K (AV.tup [AV.agg [AV.agg [AV.str (Pat.Pat.base (zy name)), AV.bool (Pat.Pat.late (zy name)), AV.vecr false 1 x5 (Pat.intF x4), AV.vec false 1 x11, AV.vec false 1 [], AV.vecr false 1 (List.length x12) (Pat.trF x12)], AV.bool first, AV.int .i64 0, AV.bool false, AV.agg [AV.bool true, AV.b8 32 (z23 (zu name) early), AV.u64 0, AV.b8 32 (z25 (zu name) early), AV.b8 32 (Bla.sumS (x8 ++ early))], AV.b8 32 own, AV.b8 32 early, AV.bool true, AV.b8 32 their, AV.bool knows, AV.b8 32 x1, AV.bool false, AV.slv 0 32 x2 (Shk.keyF psks), AV.int .i64 0], AV.int .i64 0]) x13)
 (K (AV.tup [AV.agg [AV.agg [AV.str (Pat.Pat.base (zy name)), AV.bool (Pat.Pat.late (zy name)), AV.vecr false 1 x5 (Pat.intF x4), AV.vec false 1 x11, AV.vec false 1 [], AV.vecr false 1 (List.length x12) (Pat.trF x12)], AV.bool first, AV.int .i64 0, AV.bool false, AV.agg [AV.bool true, AV.b8 32 (z23 (zu name) early), AV.u64 0, AV.b8 32 (z25 (zu name) early), AV.b8 32 (Bla.sumS (x8 ++ early))], AV.b8 32 own, AV.b8 32 x1, AV.bool false, AV.b8 32 their, AV.bool knows, AV.b8 32 early, AV.bool true, AV.slv 0 32 x2 (Shk.keyF psks), AV.int .i64 0], AV.int .i64 0]) x13)))
 (za (x7)
 (K (AV.tup [AV.agg [AV.agg [AV.str (Pat.Pat.base (zy name)), AV.bool (Pat.Pat.late (zy name)), AV.vecr false 1 x5 (Pat.intF x4), AV.vec false 1 x11, AV.vec false 1 [], AV.vecr false 1 (List.length x12) (Pat.trF x12)], AV.bool first, AV.int .i64 0, AV.bool false, AV.agg [AV.bool false, AV.b8 32 zn, AV.u64 0, AV.b8 32 (zu name), AV.b8 32 (Bla.sumS (x8 ++ early))], AV.b8 32 own, AV.b8 32 early, AV.bool true, AV.b8 32 their, AV.bool knows, AV.b8 32 x1, AV.bool false, AV.slv 0 32 x2 (Shk.keyF psks), AV.int .i64 0], AV.int .i64 0]) x13)
 (K (AV.tup [AV.agg [AV.agg [AV.str (Pat.Pat.base (zy name)), AV.bool (Pat.Pat.late (zy name)), AV.vecr false 1 x5 (Pat.intF x4), AV.vec false 1 x11, AV.vec false 1 [], AV.vecr false 1 (List.length x12) (Pat.trF x12)], AV.bool first, AV.int .i64 0, AV.bool false, AV.agg [AV.bool false, AV.b8 32 zn, AV.u64 0, AV.b8 32 (zu name), AV.b8 32 (Bla.sumS (x8 ++ early))], AV.b8 32 own, AV.b8 32 x1, AV.bool false, AV.b8 32 their, AV.bool knows, AV.b8 32 early, AV.bool true, AV.slv 0 32 x2 (Shk.keyF psks), AV.int .i64 0], AV.int .i64 0]) x13)))))))))))) := by kernel_rfl
theorem zqh (has : Bool) (ck : List UInt8) (n : UInt64) (hash b : List UInt8) : z7v has ck n hash (z2b has ck n hash b) = true := by
 rw [zou, zje];unfold zgj zj3;cases has with
 | false => rfl
 | true =>
  simp only [cond_true];rw [z17h, z7c, zp (by omega)]; rfl
theorem zq7 (has : Bool) (ck : List UInt8) (n : UInt64) (hash b : List UInt8) : z47 has ck n (z2b has ck n hash b) = b := by
 rw [zp0, zje];unfold zmw zj3;cases has with
 | false => rfl
 | true => exact z10o _ _ _ _
structure Fl where
 ew : Bool
 er : Bool
 kw : Bool
 kr : Bool
 used : Nat
def Fl.swap (f : Fl) : Fl := ⟨f.er, f.ew, f.kr, f.kw, f.used⟩
def zl9 (i : Bool) (n : Nat) (f : Fl) (t : Int) : Option Fl :=
 bif t == 1 then some { f with ew := true }
 else bif t == 2 then some { f with kr := true }
 else bif t == 3 then (bif f.ew && f.er then some f else none)
 else bif t == 6 then (bif f.kw && f.kr then some f else none)
 else bif t == 7 then (bif decide (f.used < n) then some { f with used := f.used + 1 } else none)
 else bif (t == 4) == i then (bif f.ew && f.kw then some f else none)
 else (bif f.er && f.kr then some f else none)
structure Syn (i : Bool) (a b c d : List UInt8) (f : Fl) (w r : Sh) : Prop where
 fw : w.first = i
 fr : r.first = !i
 ow : w.own = a
 rw' : r.own = b
 ps : w.psks = r.psks
 us : w.used = r.used
 un : w.used = (f.used : Int)
 sh : w.sh = r.sh
 ck : w.ck = r.ck
 n : w.n = r.n
 ch : w.ch = r.ch
 hs : w.hs = r.hs
 ew : f.ew = true → w.has = true ∧ w.fr = c ∧ r.saw = true ∧ r.newest = zz c
 er : f.er = true → r.has = true ∧ r.fr = d ∧ w.saw = true ∧ w.newest = zz d
 kw : w.knows = f.kw
 kr : r.knows = f.kr
 tw : f.kw = true → w.their = zz b
 tr : f.kr = true → r.their = zz a
theorem Syn.swap {i : Bool} {a b c d : List UInt8} {f : Fl} {w r : Sh} (S : Syn i a b c d f w r) : Syn (!i) b a d c f.swap r w :=
 ⟨S.fr, by rw [S.fw, Bool.not_not], S.rw', S.ow, S.ps.symm, S.us.symm, by rw [← S.us]; exact S.un, S.sh.symm, S.ck.symm, S.n.symm, S.ch.symm, S.hs.symm, S.er, S.ew, S.kr, S.kw, S.tr, S.tw⟩
theorem Syn.key {i : Bool} {a b c d : List UInt8} {f : Fl} {h g : Hd} (S : Syn i a b c d f h.s g.s) (k : List UInt8) : Syn i a b c d f (z7w h k).s (z7w g k).s :=
 ⟨S.fw, S.fr, S.ow, S.rw', S.ps, S.us, S.un, rfl, by show z23 _ k = z23 _ k; rw [S.ch], rfl, by show z25 _ k = z25 _ k; rw [S.ch], S.hs, S.ew, S.er, S.kw, S.kr, S.tw, S.tr⟩
theorem Syn.hash {i : Bool} {a b c d : List UInt8} {f : Fl} {h g : Hd} (S : Syn i a b c d f h.s g.s) (k : List UInt8) : Syn i a b c d f (zbj h k).s (zbj g k).s :=
 ⟨S.fw, S.fr, S.ow, S.rw', S.ps, S.us, S.un, S.sh, S.ck, S.n, S.ch, by show sumS (_ ++ k) = sumS (_ ++ k); rw [S.hs], S.ew, S.er, S.kw, S.kr, S.tw, S.tr⟩
theorem Syn.told {i : Bool} {a b c d : List UInt8} {f : Fl} {h g : Hd} (S : Syn i a b c d f h.s g.s) (k : List UInt8) : Syn i a b c d f (z4q k h).s (z4q k g).s := by
 unfold z4q;rw [S.ps];cases decide (0 < g.s.psks.length) with
 | true => exact Syn.key (S.hash k) k
 | false => exact S.hash k
theorem z13j (k : List UInt8) (h : Hd) : (z4q k h).e = h.e ∧ (z4q k h).inn = h.inn ∧ (z4q k h).out = h.out := by
 unfold z4q;cases decide (0 < h.s.psks.length) <;> exact ⟨rfl, rfl, rfl⟩
theorem zb2 {h : Hd} {x y : List UInt8} (ht : z3e x y = true) : dhH true true x y h = z7w h (dhS x y) := by
 unfold dhH;rw [ht]; rfl
theorem zmp {i : Bool} {a b c d : List UInt8} {f f' : Fl} {h g : Hd} {t : Int} (la : a.length = 32) (lb : b.length = 32) (lc : c.length = 32) (ld : d.length = 32)
  (S : Syn i a b c d f h.s g.s) (t1 : (t == 1) = false) (t2 : (t == 2) = false) (ht : zl9 i h.s.psks.length f t = some f') :
  (∃ k, z1v t h = z7w h k ∧ z1v t g = z7w g k ∧ f' = f) ∨ (z1v t h = zih h ∧ z1v t g = zih g ∧ f' = { f with used := f.used + 1 }) := by
 unfold zl9 at ht;rw [t1, t2, cond_false, cond_false] at ht;unfold z1v;cases t3 : t == 3 with
 | true =>
  rw [t3, cond_true] at ht;cases hb : f.ew && f.er with
  | false => rw [hb] at ht; cases ht
  | true =>
   rw [hb, cond_true, Option.some.injEq] at ht;simp only [Bool.and_eq_true] at hb;obtain ⟨e1, e2, e3, e4⟩ := S.ew hb.1;obtain ⟨d1, d2, d3, d4⟩ := S.er hb.2;simp only [cond_true];rw [e1, e2, e3, e4, d1, d2, d3, d4, zb2 (z6x lc ld), zb2 (z6x ld lc)];exact .inl ⟨_, rfl, by rw [zjh], ht.symm⟩
 | false =>
 rw [t3, cond_false] at ht;cases t6 : t == 6 with
 | true =>
  rw [t6, cond_true] at ht;cases hb : f.kw && f.kr with
  | false => rw [hb] at ht; cases ht
  | true =>
   rw [hb, cond_true, Option.some.injEq] at ht;simp only [Bool.and_eq_true] at hb;simp only [cond_true, cond_false];rw [S.kw, S.kr, hb.1, hb.2, S.ow, S.rw', S.tw hb.1, S.tr hb.2, zb2 (z6x la lb), zb2 (z6x lb la)];exact .inl ⟨_, rfl, by rw [zjh], ht.symm⟩
 | false =>
 rw [t6, cond_false] at ht;cases t7 : t == 7 with
 | true =>
  rw [t7, cond_true] at ht;cases hb : decide (f.used < h.s.psks.length) with
  | false => rw [hb] at ht; cases ht
  | true =>
   rw [hb, cond_true, Option.some.injEq] at ht;rw [decide_eq_true_eq] at hb;have q1 : decide ((h.s.psks.length : Int) ≤ h.s.used) = false := decide_eq_false (by rw [S.un]; omega)
   have q2 : decide ((g.s.psks.length : Int) ≤ g.s.used) = false := by rw [← S.ps, ← S.us]; exact q1
   simp only [cond_true, cond_false];rw [q1, q2];exact .inr ⟨rfl, rfl, ht.symm⟩
 | false =>
 rw [t7, cond_false] at ht;simp only [cond_false];rw [S.fw, S.fr];cases t4 : (t == 4) == i with
 | true =>
  rw [t4, cond_true] at ht;have t5 : ((t == 4) == !i) = false := by
   revert t4; cases (t == 4) <;> cases i <;> simp
  rw [t5];cases hb : f.ew && f.kw with
  | false => rw [hb] at ht; cases ht
  | true =>
   rw [hb, cond_true, Option.some.injEq] at ht;simp only [Bool.and_eq_true] at hb;obtain ⟨e1, e2, e3, e4⟩ := S.ew hb.1;simp only [cond_true, cond_false];rw [S.kw, hb.2, S.rw', S.tw hb.2, e1, e2, e3, e4, zb2 (z6x lc lb), zb2 (z6x lb lc)];exact .inl ⟨_, rfl, by rw [zjh], ht.symm⟩
 | false =>
  rw [t4, cond_false] at ht;have t5 : ((t == 4) == !i) = true := by
   revert t4; cases (t == 4) <;> cases i <;> simp
  rw [t5];cases hb : f.er && f.kr with
  | false => rw [hb] at ht; cases ht
  | true =>
   rw [hb, cond_true, Option.some.injEq] at ht;simp only [Bool.and_eq_true] at hb;obtain ⟨d1, d2, d3, d4⟩ := S.er hb.1;simp only [cond_true, cond_false];rw [S.kr, hb.2, S.ow, S.tr hb.2, d1, d2, d3, d4, zb2 (z6x la ld), zb2 (z6x ld la)];exact .inl ⟨_, rfl, by rw [zjh], ht.symm⟩
theorem Syn.psk {i : Bool} {a b c d : List UInt8} {f : Fl} {h g : Hd} (S : Syn i a b c d f h.s g.s) : Syn i a b c d { f with used := f.used + 1 } (zih h).s (zih g).s := by
 refine ⟨S.fw, S.fr, S.ow, S.rw', S.ps, ?_, ?_, rfl, ?_, rfl, ?_, ?_, S.ew, S.er, S.kw, S.kr, S.tw, S.tr⟩
 ·show h.s.used + 1 = g.s.used + 1;rw [S.us]
 ·show h.s.used + 1 = ((f.used + 1 : Nat) : Int);rw [S.un]; rfl
 ·show z9q _ _ = z9q _ _;rw [S.ch, S.us, S.ps]
 ·show z25 _ _ = z25 _ _;rw [S.ch, S.us, S.ps]
 ·show sumS (_ ++ z23 _ _) = sumS (_ ++ z23 _ _);rw [S.hs, S.ch, S.us, S.ps]
theorem zx1 {i : Bool} {a b c d : List UInt8} {f f' : Fl} {h g : Hd} {t : Int} (la : a.length = 32) (lb : b.length = 32) (lc : c.length = 32) (ld : d.length = 32)
  (S : Syn i a b c d f h.s g.s) (he : h.e = 0) (ge : g.e = 0) (ht : zl9 i h.s.psks.length f t = some f') :
  ∃ msg, (z3d c h t).out = h.out ++ msg ∧ (z3d c h t).e = 0 ∧ ∀ rest, g.inn = msg ++ rest → (z2t g t).inn = rest ∧ (z2t g t).e = 0 ∧ Syn i a b c d f' (z3d c h t).s (z2t g t).s := by
 have e0 : (h.e == 0) = true := by rw [he]; rfl
 have e1 : (g.e == 0) = true := by rw [ge]; rfl
 unfold z3d z2t;rw [e0, e1, cond_true, cond_true];cases t1 : t == 1 with
 | true =>
  unfold zl9 at ht;rw [t1, cond_true, Option.some.injEq] at ht;subst ht;simp only [cond_true];obtain ⟨k1, _, k3⟩ := z13j (zz c) { h with s := { h.s with fr := c, has := true }, out := h.out ++ zz c }
  refine ⟨zz c, k3, k1.trans he, fun rest hr => ?_⟩
  have l1 : (zz c).length = 32 := z29 c;have ll : ltB g.inn.length 32 = false := by rw [hr, List.length_append]; exact z3l (by omega)
  have tk : g.inn.take 32 = zz c := by rw [hr, ← l1, List.take_left]
  have dr : g.inn.drop 32 = rest := by rw [hr, ← l1, List.drop_left]
  rw [ll, tk, dr, cond_false];obtain ⟨m1, m2, _⟩ := z13j (zz c) { g with s := { g.s with newest := zz c, saw := true }, inn := rest }
  refine ⟨m2, m1.trans ge, Syn.told (h := { h with s := { h.s with fr := c, has := true }, out := h.out ++ zz c }) (g := { g with s := { g.s with newest := zz c, saw := true }, inn := rest }) ?_ _⟩
  exact ⟨S.fw, S.fr, S.ow, S.rw', S.ps, S.us, S.un, S.sh, S.ck, S.n, S.ch, S.hs, fun _ => ⟨rfl, rfl, rfl, rfl⟩, S.er, S.kw, S.kr, S.tw, S.tr⟩
 | false =>
 simp only [cond_false];cases t2 : t == 2 with
 | true =>
  unfold zl9 at ht;rw [t1, t2, cond_false, cond_true, Option.some.injEq] at ht;subst ht;simp only [cond_true];refine ⟨z2b h.s.sh h.s.ck h.s.n h.s.hs (zz h.s.own), rfl, he, fun rest hr => ?_⟩
  have l1 : (z2b h.s.sh h.s.ck h.s.n h.s.hs (zz h.s.own)).length = z3u g := by
   rw [zb1, z29]; unfold z3u; rw [S.sh]
  have ll : ltB g.inn.length (z3u g) = false := by rw [hr, List.length_append]; exact z3l (by omega)
  have tk : g.inn.take (z3u g) = z2b h.s.sh h.s.ck h.s.n h.s.hs (zz h.s.own) := by rw [hr, ← l1, List.take_left]
  have dr : g.inn.drop (z3u g) = rest := by rw [hr, ← l1, List.drop_left]
  rw [ll, tk, dr, cond_false, ← S.sh, ← S.ck, ← S.n, ← S.hs, zqh, zq7];exact ⟨rfl, ge, ⟨S.fw, S.fr, S.ow, S.rw', S.ps, S.us, S.un, rfl, rfl, rfl, S.ch, rfl, S.ew, S.er, S.kw, rfl, S.tw, fun _ => by show zz h.s.own = _; rw [S.ow]⟩⟩
 | false =>
  simp only [cond_false];have IN := zbs t h;have IG := zbs t g;refine ⟨[], by rw [IN.2, List.append_nil], ?_, fun rest hr => ?_⟩
  ·rcases zmp la lb lc ld S t1 t2 ht with ⟨k, h1, _, _⟩ | ⟨h1, _, _⟩ <;> rw [h1] <;> exact he
  ·refine ⟨by rw [IG.1, hr]; rfl, ?_⟩
   rcases zmp la lb lc ld S t1 t2 ht with ⟨k, h1, h2, rfl⟩ | ⟨h1, h2, rfl⟩
   ·rw [h1, h2]; exact ⟨ge, S.key k⟩
   ·rw [h1, h2]; exact ⟨ge, S.psk⟩
def flK (i : Bool) (n : Nat) (f : Fl) (l : List Int) : Nat → Option Fl
 | 0 => some f
 | k + 1 => (flK i n f l k).bind fun g => zl9 i n g (l.getD k 0)
theorem z17v {i : Bool} {n : Nat} {f : Fl} {l : List Int} {k : Nat} {g : Fl} (h : flK i n f l (k + 1) = some g) : ∃ g', flK i n f l k = some g' ∧ zl9 i n g' (l.getD k 0) = some g := by
 rw [flK] at h;cases hk : flK i n f l k with
 | none => rw [hk] at h; cases h
 | some g' => rw [hk] at h; exact ⟨g', rfl, h⟩
theorem zuj {i : Bool} {a b c d : List UInt8} {f : Fl} {p : Pat} {w r : Sh} {m : Nat} (la : a.length = 32) (lb : b.length = 32) (lc : c.length = 32) (ld : d.length = 32)
  (S : Syn i a b c d f w r) (gw : OkS m w) (ht : w.turn = r.turn) : ∀ (k : Nat) (f' : Fl), m + k < 1900 → flK i w.psks.length f (z12 p w) k = some f' →
  (hdW p w c k).e = 0 ∧ ∀ rest, (hdR p r ((hdW p w c k).out ++ rest) k).inn = rest ∧ (hdR p r ((hdW p w c k).out ++ rest) k).e = 0 ∧ Syn i a b c d f' (hdW p w c k).s (hdR p r ((hdW p w c k).out ++ rest) k).s
 | 0, f', _, h => by
  rw [flK, Option.some.injEq] at h;subst h;rw [zcg];refine ⟨rfl, fun rest => ?_⟩
  rw [zl8];exact ⟨rfl, rfl, S⟩
 | k + 1, f', hm, h => by
  obtain ⟨f1, h1, h2⟩ := z17v h;obtain ⟨i1, i2⟩ := zuj la lb lc ld S gw ht k f1 (by omega) h1
  have hps : (hdW p w c k).s.psks = w.psks := (zm0 (p := p) gw lc k (by omega)).2.1.psks
  have tk : z12 p r = z12 p w := by unfold z12; rw [ht]
  rw [zce];obtain ⟨j1, j2, j3⟩ := i2 [];obtain ⟨msg, q1, q2, _⟩ := zx1 (t := (z12 p w).getD k 0) la lb lc ld j3 i1 j2 (by rw [hps]; exact h2)
  refine ⟨q2, fun rest => ?_⟩
  rw [zku, tk, q1, List.append_assoc];obtain ⟨j1, j2, j3⟩ := i2 (msg ++ rest);obtain ⟨msg', q1', q2', q3'⟩ := zx1 (t := (z12 p w).getD k 0) la lb lc ld j3 i1 j2 (by rw [hps]; exact h2)
  have : msg' = msg := List.append_cancel_left (q1'.symm.trans q1);subst this;exact q3' rest j1
theorem zrx {i : Bool} {a b c d : List UInt8} {f f' : Fl} {p : Pat} {w r : Sh} {m : Nat} {txt : List UInt8} (la : a.length = 32) (lb : b.length = 32) (lc : c.length = 32) (ld : d.length = 32)
  (S : Syn i a b c d f w r) (gw : OkS m w) (gr : OkS m r) (hm : m ≤ 900) (ht : w.turn = r.turn) (t0 : 0 ≤ w.turn) (t1 : w.turn < p.turns.length) (dw : w.dead = false) (dr : r.dead = false)
  (hi : i = ((Int.tmod w.turn 2 == 0) != p.late)) (htok : (z12 p w).length ≤ 7) (hf : flK i w.psks.length f (z12 p w) (z12 p w).length = some f') (hx : txt.length ≤ 300) :
  ∃ w' r' msg, z2c p w c txt = (w', msg, 0) ∧ z3f p r msg = (r', txt, 0) ∧ Syn i a b c d f' w' r' ∧ OkS (m + 8) w' ∧ OkS (m + 8) r' ∧ w'.turn = w.turn + 1 ∧ r'.turn = w.turn + 1 ∧ w'.dead = false ∧ r'.dead = false ∧ w'.psks = w.psks := by
 have tk : z12 p r = z12 p w := by unfold z12; rw [ht]
 obtain ⟨h1, h2⟩ := zuj la lb lc ld S gw ht _ _ (by omega) hf
 obtain ⟨k1, k2, k3⟩ := zm0 (p := p) gw lc (z12 p w).length (by omega)
 have l0 : Int.tmod w.turn 2 = Int.tmod r.turn 2 := by rw [ht]
 have mw : z4z p w true = false := by
  unfold z4z;rw [dw, S.fw, decide_eq_false (by omega : ¬ w.turn < 0), decide_eq_true t1, decide_eq_false (by have := gw.us; omega : ¬ w.used < 0), hi]
  cases (Int.tmod w.turn 2 == 0) <;> cases p.late <;> rfl
 have mr : z4z p r false = false := by
  unfold z4z;rw [dr, S.fr, decide_eq_false (by omega : ¬ r.turn < 0), decide_eq_true (by omega : r.turn < (p.turns.length : Int)), decide_eq_false (by have := gr.us; omega : ¬ r.used < 0), hi, l0]
  cases (Int.tmod r.turn 2 == 0) <;> cases p.late <;> rfl
 generalize hH : hdW p w c (z12 p w).length = h at *;have hs : (z2b h.s.sh h.s.ck h.s.n h.s.hs txt).length ≤ 316 := by
  rw [zb1]; cases h.s.sh with
  | true => simp only [cond_true]; omega
  | false => simp only [cond_false]; omega
 obtain ⟨j1, j2, j3⟩ := h2 (z2b h.s.sh h.s.ck h.s.n h.s.hs txt);generalize hG : hdR p r (h.out ++ z2b h.s.sh h.s.ck h.s.n h.s.hs txt) (z12 p w).length = g at *;obtain ⟨q1, q2, _⟩ := zt2 (p := p) (b := h.out ++ z2b h.s.sh h.s.ck h.s.n h.s.hs txt) gr (z12 p w).length (by omega)
 rw [hG] at q1 q2;have LW : z2c p w c txt = ({ (zbn txt h).s with turn := w.turn + 1 }, h.out ++ z2b h.s.sh h.s.ck h.s.n h.s.hs txt, 0) := by
  rw [z8l, z9i, mw, cond_false, z3l (by omega), cond_false, hH, h1]; rfl
 have LR : z3f p r (h.out ++ z2b h.s.sh h.s.ck h.s.n h.s.hs txt) = ({ g.s with n := symN g.s.sh g.s.n, hs := sumS (g.s.hs ++ z2b h.s.sh h.s.ck h.s.n h.s.hs txt), turn := r.turn + 1 }, txt, 0) := by
  rw [z9s, zbp, mr, cond_false, z3l (by rw [List.length_append]; omega), cond_false, tk, hG, j2, j1, ← j3.sh, ← j3.ck, ← j3.n, ← j3.hs, zqh, zq7]; rfl
 refine ⟨_, _, _, LW, LR, ?_, ?_, ?_, rfl, by show r.turn + 1 = _; rw [ht], ?_, ?_, ?_⟩
 ·exact ⟨j3.fw, j3.fr, j3.ow, j3.rw', j3.ps, j3.us, j3.un, j3.sh, j3.ck, by show symN _ _ = symN _ _; rw [j3.sh, j3.n], j3.ch, by show sumS (_ ++ _) = sumS (_ ++ _); rw [j3.hs], j3.ew, j3.er, j3.kw, j3.kr, j3.tw, j3.tr⟩
 ·have := zv6 (h := h) (m := m + (z12 p w).length) k1 (by omega) txt
  have := this.up (k := m + 8) (by omega)
  exact ⟨this.ck, this.ch, this.hs, this.own, this.fr, this.their, this.newest, this.sy, this.ps, this.us⟩
 ·have := q1.symN (by omega)
  refine OkS.up (m := m + (z12 p w).length + 1) ⟨q1.ck, q1.ch, z1l _, q1.own, q1.fr, q1.their, q1.newest, this, q1.ps, q1.us⟩ (by omega)
 ·exact k2.dead.trans dw
 ·exact q2.dead.trans dr
 ·exact k2.psks
def iJ (p : Pat) (j : Nat) : Bool := (j % 2 == 0) != p.late
theorem zy2 (p : Pat) (j : Nat) : iJ p (j + 1) = !iJ p j := by
 unfold iJ;have : ((j + 1) % 2 == 0) = !(j % 2 == 0) := by
  rcases Nat.mod_two_eq_zero_or_one j with h | h
  ·rw [h, show (j + 1) % 2 = 1 by omega]; rfl
  ·rw [h, show (j + 1) % 2 = 0 by omega]; rfl
 rw [this];cases (j % 2 == 0) <;> cases p.late <;> rfl
theorem z134 (p : Pat) (j : Nat) : iJ p j = ((Int.tmod (j : Int) 2 == 0) != p.late) := by
 have h : Int.tmod (j : Int) 2 = ((j % 2 : Nat) : Int) := rfl;unfold iJ;rw [h];rcases Nat.mod_two_eq_zero_or_one j with h | h <;> rw [h] <;> rfl
def fl0 (p : Pat) : Fl := bif p.late then ⟨false, true, false, false, 0⟩ else ⟨false, false, p.pre1.contains 2, p.pre0.contains 2, 0⟩
def flT (p : Pat) : Nat → Option Fl
 | 0 => some (fl0 p)
 | j + 1 => (flT p j).bind fun f => (flK (iJ p j) p.psks.length f (p.turns.getD j []) (p.turns.getD j []).length).map Fl.swap
theorem z177 {p : Pat} {j : Nat} {f : Fl} (h : flT p (j + 1) = some f) : ∃ g g', flT p j = some g ∧ flK (iJ p j) p.psks.length g (p.turns.getD j []) (p.turns.getD j []).length = some g' ∧ f = g'.swap := by
 rw [flT] at h;cases hk : flT p j with
 | none => rw [hk] at h; cases h
 | some g =>
  rw [hk] at h;rw [Option.bind_some] at h;cases hg : flK (iJ p j) p.psks.length g (p.turns.getD j []) (p.turns.getD j []).length with
  | none => rw [hg] at h; cases h
  | some g' =>
   rw [hg, Option.map_some, Option.some.injEq] at h;exact ⟨g, g', rfl, hg, h.symm⟩
structure Two (p : Pat) (a b c d : List UInt8) (j : Nat) (x y : Sh) : Prop where
 fl : ∃ f, flT p j = some f ∧ (iJ p j = true → Syn true a b c d f x y) ∧ (iJ p j = false → Syn false b a d c f y x)
 gx : OkS (8 * j) x
 gy : OkS (8 * j) y
 tx : x.turn = (j : Int)
 ty : y.turn = (j : Int)
 dx : x.dead = false
 dy : y.dead = false
 px : x.psks.length = p.psks.length
 py : y.psks.length = p.psks.length
theorem zuf {p : Pat} {a b c d : List UInt8} {j : Nat} {x y : Sh} {txt : List UInt8} (la : a.length = 32) (lb : b.length = 32) (lc : c.length = 32) (ld : d.length = 32) (hp : (p.turns.all fun t => decide (t.length ≤ 7)) = true) (hj : j < p.turns.length) (hj2 : j < 100)
  (hf : (flT p (j + 1)).isSome = true) (hx : txt.length ≤ 300) (T : Two p a b c d j x y) :
  (iJ p j = true → ∃ x' y' msg, z2c p x c txt = (x', msg, 0) ∧ z3f p y msg = (y', txt, 0) ∧ Two p a b c d (j + 1) x' y' ∧ x'.sh = y'.sh ∧ x'.ck = y'.ck ∧ x'.n = y'.n ∧ x'.ch = y'.ch ∧ x'.hs = y'.hs) ∧
  (iJ p j = false → ∃ x' y' msg, z2c p y d txt = (y', msg, 0) ∧ z3f p x msg = (x', txt, 0) ∧ Two p a b c d (j + 1) x' y' ∧ y'.sh = x'.sh ∧ y'.ck = x'.ck ∧ y'.n = x'.n ∧ y'.ch = x'.ch ∧ y'.hs = x'.hs) := by
 obtain ⟨f, f1, f2, f3⟩ := T.fl;cases hf' : flT p (j + 1) with
 | none => rw [hf'] at hf; cases hf
 | some f' =>
 obtain ⟨g, g', g1, g2, rfl⟩ := z177 hf';have : g = f := Option.some.inj (g1.symm.trans f1);subst this;have htoks : ∀ s : Sh, s.turn = (j : Int) → z12 p s = p.turns.getD j [] := fun s hs => by unfold z12; rw [hs]; rfl
 have hlen : (p.turns.getD j []).length ≤ 7 := by
  rw [List.getD_eq_getElem?_getD, List.getElem?_eq_getElem hj];have := List.all_eq_true.1 hp p.turns[j] (List.getElem_mem hj);simpa using this
 refine ⟨fun hi => ?_, fun hi => ?_⟩
 ·have S := f2 hi;obtain ⟨w', r', msg, h1, h2, h3, h4, h5, h6, h7, h8, h9, h10⟩ := zrx (txt := txt) (p := p) la lb lc ld S T.gx T.gy (by omega) (T.tx.trans T.ty.symm) (by rw [T.tx]; omega) (by rw [T.tx]; omega) T.dx T.dy (by rw [T.tx, ← z134]; exact hi.symm)
   (by rw [htoks x T.tx]; exact hlen) (by rw [htoks x T.tx, T.px, ← hi]; exact g2) hx
  refine ⟨w', r', msg, h1, h2, ⟨⟨g'.swap, hf', fun h => ?_, fun _ => h3.swap⟩, h4.up (by omega), h5.up (by omega), by rw [h6, T.tx]; rfl, by rw [h7, T.tx]; rfl, h8, h9, by rw [h10]; exact T.px, by rw [← h3.ps, h10]; exact T.px⟩, h3.sh, h3.ck, h3.n, h3.ch, h3.hs⟩
  rw [zy2, hi] at h; cases h
 ·have S := f3 hi;obtain ⟨w', r', msg, h1, h2, h3, h4, h5, h6, h7, h8, h9, h10⟩ := zrx (txt := txt) (p := p) lb la ld lc S T.gy T.gx (by omega) (T.ty.trans T.tx.symm) (by rw [T.ty]; omega) (by rw [T.ty]; omega) T.dy T.dx (by rw [T.ty, ← z134]; exact hi.symm)
   (by rw [htoks y T.ty]; exact hlen) (by rw [htoks y T.ty, T.py, ← hi]; exact g2) hx
  refine ⟨r', w', msg, h1, h2, ⟨⟨g'.swap, hf', fun _ => h3.swap, fun h => ?_⟩, h5.up (by omega), h4.up (by omega), by rw [h7, T.ty]; rfl, by rw [h6, T.ty]; rfl, h9, h8, by rw [← h3.ps, h10]; exact T.py, by rw [h10]; exact T.py⟩, h3.sh, h3.ck, h3.n, h3.ch, h3.hs⟩
  rw [zy2, hi] at h; cases h
end Go.Proofs.YtehaohfglolljaaGreatDoor
namespace Go.Proofs.YtehaohfglolljaaGreatDoor
open Go Go.V Go.Pat Go.Fld Go.Pol Go.Cha Go.Bla
set_option maxRecDepth 100000
theorem z3t (s : List UInt8) : (zu s).length = 32 := by
 rw [zv8];unfold zlx;cases h : ltB 32 s.length with
 | true => exact z1l s
 | false =>
  have := z3h h;rw [cond_false, List.length_append, List.length_take, List.length_drop, show zn.length = 32 from rfl]; omega
end Go.Proofs.YtehaohfglolljaaGreatDoor
namespace Go.Proofs.YtehaohfglolljaaGreatDoor
open Go Go.V Go.Pat Go.Fld Go.Pol Go.Cha Go.Bla Go.Shk
set_option maxRecDepth 100000
noncomputable def z7u (p : Pat) (first : Bool) (pro own their : List UInt8) (knows : Bool) (early : List UInt8) (psks : List (List UInt8)) : Sh :=
 bif isC 3 p then ⟨first, 0, false, false, zn, 0, zu (z1f p), sumS (sumS (zu (z1f p) ++ pro) ++ bif first then zz early else early), own, bif first then early else zn, first, their, knows, bif first then zn else early, !first, psks, 0⟩
 else ⟨first, 0, false, false, zn, 0, zu (z1f p), (bif isC 2 p then sumS (sumS (sumS (zu (z1f p) ++ pro) ++ bif first then zz own else their) ++ bif first then their else zz own)
   else bif isC 1 p then sumS (sumS (zu (z1f p) ++ pro) ++ bif first then their else zz own) else sumS (zu (z1f p) ++ pro)), own, zn, false, their, knows, zn, false, psks, 0⟩
noncomputable def z7b : Pat → Bool → List UInt8 → List UInt8 → List UInt8 → Bool → List UInt8 → List (List UInt8) → Sh := (zf z7u).val
theorem z4t : z7b = z7u := by rw [z7b, (zf z7u).property]
def zsq (p : Pat) (first knows : Bool) : Bool := bif isC 2 p then knows else bif isC 1 p then !first || knows else true
theorem z17t {p : Pat} {c d : Nat} (hc : isC c p = true) (h : isC d p = true) : (preC c) = (preC d) := by
 simp only [isC, Bool.and_eq_true, beq_iff_eq] at hc h;exact Prod.ext (hc.1.symm.trans h.1) (hc.2.symm.trans h.2)
theorem z4x {c : Nat} {p : Pat} {s x : Sh} (hc : isC c p = true) (hx : x = s) :
  okOut (.ret (.tup [shV p x, .int .i64 0]) []) (.tup [.agg [.agg [.str p.base, .bool p.late, .vecr false 1 p.psks.length (intF p.psks), vL (preC c).1, vL (preC c).2, .vecr false 1 p.turns.length (trF p.turns)], .bool s.first, .int .i64 s.turn, .bool s.dead, .agg [.bool s.sh, .b8 32 s.ck, .u64 s.n, .b8 32 s.ch, .b8 32 s.hs], .b8 32 s.own, .b8 32 s.fr, .bool s.has, .b8 32 s.their, .bool s.knows, .b8 32 s.newest, .bool s.saw, .slv 0 32 s.psks.length (keyF s.psks), .int .i64 s.used], .int .i64 0]) [.tail 32 s.psks.length] := by
 subst hx;refine okOut.cold (v' := .tup [.agg [.agg [.str p.base, .bool p.late, .vecr false 1 p.psks.length (intF p.psks), vL (preC c).1, vL (preC c).2, .vecr false 1 p.turns.length (trF p.turns)], .bool x.first, .int .i64 x.turn, .bool x.dead, .agg [.bool x.sh, .b8 32 x.ck, .u64 x.n, .b8 32 x.ch, .b8 32 x.hs], .b8 32 x.own, .b8 32 x.fr, .bool x.has, .b8 32 x.their, .bool x.knows, .b8 32 x.newest, .bool x.saw, .vecr false 32 x.psks.length (keyF x.psks), .int .i64 x.used], .int .i64 0]) (u := []) rfl (z9m (z1b ?_ (z1b (leV.refl _) z4w))) rfl ⟨rfl, rfl⟩;simp only [isC, Bool.and_eq_true, beq_iff_eq] at hc;rw [← hc.1, ← hc.2];exact RLe.flat (l' := shC p x) (RLe.same (RLe.same (RLe.same (RLe.cons (Re.of (a := vL _) rfl (by simp [vL]) rfl rfl (by simp) (z8h _)) (RLe.cons (Re.of (a := vL _) rfl (by simp [vL]) rfl rfl (by simp) (z8h _)) (RLe.refl _))))))
theorem zzi {p : Pat} (hp : p ∈ z2e) : (z1f p).length ≤ 1000000 := by
 have : (zos.all fun x => leB x.1.length 1000) = true := by kernel_rfl
 have := zh.1 (List.all_eq_true.1 this _ (zfy hp));have e : (z1f p, p).1 = z1f p := rfl;rw [e] at this; omega
def zs : List UInt8 := [0, 0, 0, 0, 0, 0, 0, 0, 0, 0, 0, 0, 0, 0, 0, 0, 0, 0, 0, 0, 0, 0, 0, 0, 0, 0, 0, 0, 0, 0, 0, 0]
theorem z9l : (zn == [0, 0, 0, 0, 0, 0, 0, 0, 0, 0, 0, 0, 0, 0, 0, 0, 0, 0, 0, 0, 0, 0, 0, 0, 0, 0, 0, 0, 0, 0, 0, 0]) = true := rfl
theorem zbr : (false == true) = false := rfl
theorem zbi : (true == false) = false := rfl
theorem zg8 : leB (32 + 32) 1000000 = true := rfl
theorem z1h0 (p : Pat) (first fp : Bool) (pro own their : List UInt8) (knows : Bool) (early : List UInt8) (psks : List (List UInt8)) (hp : p ∈ z2e) (hpro : pro.length ≤ 200) (hps : psks.length = p.psks.length) (hkt : knows = true ∨ their = zn) (hk : zsq p first knows = true) (h3 : isC 3 p = true → psks = []) :
  HCall Tryz.E 6 [.str (z1f p), .bool first, .vec8 fp pro, .b8 32 own, .b8 32 their, .bool knows, .b8 32 early, .vecr false 32 psks.length (keyF psks)] (.ret (.tup [shV p (z7b p first pro own their knows early psks), .int .i64 0]) []) := by
 refine HCall.of_len rfl rfl fun hlen => ?_
 have lo : own.length = 32 := hlen (.b8 32 own) (by simp)
 have lt : their.length = 32 := hlen (.b8 32 their) (by simp)
 have le : early.length = 32 := hlen (.b8 32 early) (by simp)
 have hp4 := zgf hp;have c1 : ltI 200 ((pro.length : Nat) : Int) = false := by rw [z1p]; exact decide_eq_false (by omega)
 have c2 : (((psks.length : Nat) : Int) != ((p.psks.length : Nat) : Int)) = false := by rw [hps]; exact bne_self_eq_false _
 have c3 : leB (z1f p).length 1000000 = true := zp (zzi hp);have c4 : leB (32 + pro.length) 1000000 = true := zp (by omega)
 have c5 : leB (psks.length * 32) 140737488355328 = true := zp (by omega)
 have hn := zbk hp;have hkt : knows = false → their = zn := fun h => hkt.resolve_left (by rw [h]; decide)
 have no : ∀ c d, isC c p = true → preC c ≠ preC d → isC d p = false := fun c d hc hd => Bool.not_eq_true _ ▸ fun h => hd (z17t hc h)
 rcases cls hp with hc | hc | hc | hc
 ·have n3 := no 0 3 hc (by decide)
  have n2 := no 0 2 hc (by decide)
  have n1 := no 0 1 hc (by decide)
  refine HCall.of_walkC (R := RSh) (T := KB 0) (fun _ _ => .unroll 5) 6 rfl rfl ?_
  rw [z1du];dsimp only;rw [hn];refine ze.2 ⟨zf2.2 ⟨p, hp, rfl, hc⟩, ?_⟩;cases knows with
  | false =>
   obtain rfl := hkt rfl;simp only [c1, c2, c3, z3t, c4, c5, z9l, Go.V.ite2_true, Go.V.ite2_false, z1o, cond_false, cond_true, Bool.not_true, Bool.not_false];refine z4x (x := z7b p first pro own zn false early psks) hc (s := ⟨first, 0, false, false, zn, 0, zu (z1f p), sumS (zu (z1f p) ++ pro), own, zn, false, zn, false, zn, false, psks, 0⟩) ?_;rw [z4t]; unfold z7u; rw [n3, n2, n1]; rfl
  | true =>
   simp only [c1, c2, c3, z3t, c4, c5, z9l, Go.V.ite2_true, Go.V.ite2_false, z1o, cond_false, cond_true, Bool.not_true, Bool.not_false];refine z4x (x := z7b p first pro own their true early psks) hc (s := ⟨first, 0, false, false, zn, 0, zu (z1f p), sumS (zu (z1f p) ++ pro), own, zn, false, their, true, zn, false, psks, 0⟩) ?_;rw [z4t]; unfold z7u; rw [n3, n2, n1]; rfl
 ·have n3 := no 1 3 hc (by decide)
  have n2 := no 1 2 hc (by decide)
  refine HCall.of_walkC (R := RSh) (T := KB 1) (fun _ _ => .unroll 5) 6 rfl rfl ?_
  rw [z1d6];dsimp only;rw [hn];refine ze.2 ⟨zf2.2 ⟨p, hp, rfl, hc⟩, ?_⟩;cases knows with
  | false =>
   obtain rfl := hkt rfl;cases first with
   | true =>
    unfold zsq at hk;rw [n2, hc] at hk;cases hk
   | false =>
    simp only [c1, c2, c3, z3t, z1l, z29, zg8, lo, lt, le, c4, c5, z9l, Go.V.ite2_true, Go.V.ite2_false, z1o, cond_false, cond_true, Bool.not_true, Bool.not_false, beq_self_eq_true, zbr, zbi];refine z4x (x := z7b p false pro own zn false early psks) hc (s := ⟨false, 0, false, false, zn, 0, zu (z1f p), sumS (sumS (zu (z1f p) ++ pro) ++ zz own), own, zn, false, zn, false, zn, false, psks, 0⟩) ?_;rw [z4t]; unfold z7u; rw [n3, n2, hc]; rfl
  | true =>
   cases first with
   | true =>
    simp only [c1, c2, c3, z3t, z1l, z29, zg8, lo, lt, le, c4, c5, z9l, Go.V.ite2_true, Go.V.ite2_false, z1o, cond_false, cond_true, Bool.not_true, Bool.not_false, beq_self_eq_true, zbr, zbi];refine z4x (x := z7b p true pro own their true early psks) hc (s := ⟨true, 0, false, false, zn, 0, zu (z1f p), sumS (sumS (zu (z1f p) ++ pro) ++ their), own, zn, false, their, true, zn, false, psks, 0⟩) ?_;rw [z4t]; unfold z7u; rw [n3, n2, hc]; rfl
   | false =>
    simp only [c1, c2, c3, z3t, z1l, z29, zg8, lo, lt, le, c4, c5, z9l, Go.V.ite2_true, Go.V.ite2_false, z1o, cond_false, cond_true, Bool.not_true, Bool.not_false, beq_self_eq_true, zbr, zbi];refine z4x (x := z7b p false pro own their true early psks) hc (s := ⟨false, 0, false, false, zn, 0, zu (z1f p), sumS (sumS (zu (z1f p) ++ pro) ++ zz own), own, zn, false, their, true, zn, false, psks, 0⟩) ?_;rw [z4t]; unfold z7u; rw [n3, n2, hc]; rfl
 ·have n3 := no 2 3 hc (by decide)
  refine HCall.of_walkC (R := RSh) (T := KB 2) (fun _ _ => .unroll 5) 6 rfl rfl ?_
  rw [z1e2];dsimp only;rw [hn];refine ze.2 ⟨zf2.2 ⟨p, hp, rfl, hc⟩, ?_⟩;cases knows with
  | false =>
   unfold zsq at hk;rw [hc] at hk;cases hk
  | true =>
   cases first with
   | true =>
    simp only [c1, c2, c3, z3t, z1l, z29, zg8, lo, lt, le, c4, c5, z9l, Go.V.ite2_true, Go.V.ite2_false, z1o, cond_false, cond_true, Bool.not_true, Bool.not_false, beq_self_eq_true, zbr, zbi];refine z4x (x := z7b p true pro own their true early psks) hc (s := ⟨true, 0, false, false, zn, 0, zu (z1f p), sumS (sumS (sumS (zu (z1f p) ++ pro) ++ zz own) ++ their), own, zn, false, their, true, zn, false, psks, 0⟩) ?_;rw [z4t]; unfold z7u; rw [n3, hc]; rfl
   | false =>
    simp only [c1, c2, c3, z3t, z1l, z29, zg8, lo, lt, le, c4, c5, z9l, Go.V.ite2_true, Go.V.ite2_false, z1o, cond_false, cond_true, Bool.not_true, Bool.not_false, beq_self_eq_true, zbr, zbi];refine z4x (x := z7b p false pro own their true early psks) hc (s := ⟨false, 0, false, false, zn, 0, zu (z1f p), sumS (sumS (sumS (zu (z1f p) ++ pro) ++ their) ++ zz own), own, zn, false, their, true, zn, false, psks, 0⟩) ?_;rw [z4t]; unfold z7u; rw [n3, hc]; rfl
 ·obtain rfl := h3 hc;have c0 : ltI 0 (((([] : List (List UInt8)).length : Nat)) : Int) = false := rfl;refine HCall.of_walkC (R := RSh) (T := KB 3) (fun _ _ => .unroll 5) 6 rfl rfl ?_
  rw [z1fq];dsimp only;rw [hn];refine ze.2 ⟨zf2.2 ⟨p, hp, rfl, hc⟩, ?_⟩;cases knows with
  | false =>
   obtain rfl := hkt rfl;cases first with
   | true =>
    simp only [c0, c1, c2, c3, z3t, z1l, z29, zg8, lo, lt, le, c4, c5, z9l, Go.V.ite2_true, Go.V.ite2_false, z1o, cond_false, cond_true, Bool.not_true, Bool.not_false, beq_self_eq_true, zbr, zbi];refine z4x (x := z7b p true pro own zn false early []) hc (s := ⟨true, 0, false, false, zn, 0, zu (z1f p), sumS (sumS (zu (z1f p) ++ pro) ++ zz early), own, early, true, zn, false, zn, false, [], 0⟩) ?_;rw [z4t]; unfold z7u; rw [hc]; rfl
   | false =>
    simp only [c0, c1, c2, c3, z3t, z1l, z29, zg8, lo, lt, le, c4, c5, z9l, Go.V.ite2_true, Go.V.ite2_false, z1o, cond_false, cond_true, Bool.not_true, Bool.not_false, beq_self_eq_true, zbr, zbi];refine z4x (x := z7b p false pro own zn false early []) hc (s := ⟨false, 0, false, false, zn, 0, zu (z1f p), sumS (sumS (zu (z1f p) ++ pro) ++ early), own, zn, false, zn, false, early, true, [], 0⟩) ?_;rw [z4t]; unfold z7u; rw [hc]; rfl
  | true =>
   cases first with
   | true =>
    simp only [c0, c1, c2, c3, z3t, z1l, z29, zg8, lo, lt, le, c4, c5, z9l, Go.V.ite2_true, Go.V.ite2_false, z1o, cond_false, cond_true, Bool.not_true, Bool.not_false, beq_self_eq_true, zbr, zbi];refine z4x (x := z7b p true pro own their true early []) hc (s := ⟨true, 0, false, false, zn, 0, zu (z1f p), sumS (sumS (zu (z1f p) ++ pro) ++ zz early), own, early, true, their, true, zn, false, [], 0⟩) ?_;rw [z4t]; unfold z7u; rw [hc]; rfl
   | false =>
    simp only [c0, c1, c2, c3, z3t, z1l, z29, zg8, lo, lt, le, c4, c5, z9l, Go.V.ite2_true, Go.V.ite2_false, z1o, cond_false, cond_true, Bool.not_true, Bool.not_false, beq_self_eq_true, zbr, zbi];refine z4x (x := z7b p false pro own their true early []) hc (s := ⟨false, 0, false, false, zn, 0, zu (z1f p), sumS (sumS (zu (z1f p) ++ pro) ++ early), own, zn, false, their, true, early, true, [], 0⟩) ?_;rw [z4t]; unfold z7u; rw [hc]; rfl
noncomputable def z198 (m : Nat) (c : List AV) : Bool := yes (∃ p s, p ∈ z2e ∧ s.psks.length = p.psks.length ∧ OkS m s ∧ c = shC p s)
noncomputable def z8f : Nat → List AV → Bool := (zf z198).val
theorem zfs {m : Nat} {c : List AV} : z8f m c = true ↔ ∃ p s, p ∈ z2e ∧ s.psks.length = p.psks.length ∧ OkS m s ∧ c = shC p s := by rw [z8f, (zf z198).property]; exact zep
theorem zoy {m : Nat} {p : Pat} {s : Sh} (hp : p ∈ z2e) (hl : s.psks.length = p.psks.length) (g : OkS m s) : z8f m (shC p s) = true := zfs.2 ⟨p, s, hp, hl, g, rfl⟩
noncomputable def zjf (n : Nat) (f : Nat → List AV) : List (List UInt8) := @dite _ (∃ l : List (List UInt8), l.length = n ∧ keyF l = f) (Classical.propDecidable _) (fun h => Classical.choose h) (fun _ => [])
theorem zuc (l : List (List UInt8)) : zjf l.length (keyF l) = l := by
 have h : ∃ l' : List (List UInt8), l'.length = l.length ∧ keyF l' = keyF l := ⟨l, rfl, rfl⟩;unfold zjf;rw [dif_pos h];have := Classical.choose_spec h;exact zsv this.1 this.2
def ksO (q : AV) : Option (Nat × (Nat → List AV)) := match q with
 | .vecr false 32 n f => some (n, f)
 | .vec _ 32 [] => some (0, keyF [])
 | .vec8 true [] => some (0, keyF [])
 | _ => none
theorem z1f7 {q : AV} {n : Nat} {f : Nat → List AV} (h : ksO q = some (n, f)) : leV q (.vecr false 32 n f) ∧ z1a q = true := by
 unfold ksO at h
 split at h
 ·obtain ⟨rfl, rfl⟩ := spE h;exact ⟨leV.refl _, rfl⟩
 ·obtain ⟨rfl, rfl⟩ := spE h;exact ⟨(zoc (rows := []) fun i h => absurd h (Nat.not_lt_zero i)).trans (z61 (fun h => by cases h) fun x hx => absurd hx (Nat.not_lt_zero x)), rfl⟩
 ·obtain ⟨rfl, rfl⟩ := spE h;exact ⟨zj9 rfl, rfl⟩
 ·cases h
noncomputable def z18r (s : List UInt8) (first : Bool) (pro their : List UInt8) (knows : Bool) (n : Nat) (f : Nat → List AV) : Bool :=
 yes (∃ p l, p ∈ z2e ∧ z1f p = s ∧ pro.length ≤ 200 ∧ l.length = n ∧ keyF l = f ∧ l.length = p.psks.length ∧ (knows = true ∨ their = zn) ∧ zsq p first knows = true ∧ (isC 3 p = true → l = []))
noncomputable def zkq : List UInt8 → Bool → List UInt8 → List UInt8 → Bool → Nat → (Nat → List AV) → Bool := (zf z18r).val
theorem zl7 {s : List UInt8} {first : Bool} {pro their : List UInt8} {knows : Bool} {n : Nat} {f : Nat → List AV} : zkq s first pro their knows n f = true ↔ ∃ p l, p ∈ z2e ∧ z1f p = s ∧ pro.length ≤ 200 ∧ l.length = n ∧ keyF l = f ∧ l.length = p.psks.length ∧ (knows = true ∨ their = zn) ∧ zsq p first knows = true ∧ (isC 3 p = true → l = []) := by rw [zkq, (zf z18r).property]; exact zep
noncomputable def F4 : Ctr Tryz.E := (((Ctr.nil Tryz.E).add 10 (fun
  | [.agg l, .vec8 _ b] => some (z8f 1000 (flL l), z7q (z1k (flL l)).1 (z3f (z1k (flL l)).1 (z1k (flL l)).2 b))
  | _ => none) (by
   intro args pre out h hp
   split at h
   ·rename_i l fb b;obtain ⟨rfl, rfl⟩ := spE h;obtain ⟨p, s, h1, h2, h3, h4⟩ := zfs.1 hp;rw [h4, z7n];have hl : leV (.agg l) (shV p s) := by
     have := z4n l;rw [h4] at this; exact this
    have hpl : zw [AV.agg l, .vec8 fb b] = true := by
     show (zw l && true) = true;rw [← z8g, h4]; rfl
    exact HCall.args (rd_c p s fb b h1 h2 h3) hpl (z1b hl fun _ _ _ _ h => h)
   ·simp at h)).add 8 (fun
  | [.agg l, .b8 32 k, .vec8 _ b] => some (z8f 1000 (flL l), z7q (z1k (flL l)).1 (z2c (z1k (flL l)).1 (z1k (flL l)).2 k b))
  | _ => none) (by
   intro args pre out h hp
   split at h
   ·rename_i l k fb b;obtain ⟨rfl, rfl⟩ := spE h;obtain ⟨p, s, h1, h2, h3, h4⟩ := zfs.1 hp;rw [h4, z7n];have hl : leV (.agg l) (shV p s) := by
     have := z4n l;rw [h4] at this; exact this
    have hpl : zw [AV.agg l, .b8 32 k, .vec8 fb b] = true := by
     show (zw l && true) = true;rw [← z8g, h4]; rfl
    exact HCall.args (wr_c p s fb k b h1 h2 h3) hpl (z1b hl fun _ _ _ _ h => h)
   ·simp at h)).add 6 (fun
  | [.str s, .bool first, .vec8 _ pro, .b8 32 own, .b8 32 their, .bool knows, .b8 32 early, q] => match ksO q with
   | some (n, f) => some (zkq s first pro their knows n f, .ret (.tup [shV (zy s) (z7b (zy s) first pro own their knows early (zjf n f)), .int .i64 0]) [])
   | none => none
  | _ => none) (by
   intro args pre out h hp
   split at h
   ·rename_i s first fp pro own their knows early q
    split at h
    ·rename_i n f hq;obtain ⟨rfl, rfl⟩ := spE h;obtain ⟨p, l, h1, rfl, h3, rfl, rfl, h6, h7, h8, h9⟩ := zl7.1 hp;rw [zbk h1, zuc];obtain ⟨q1, q2⟩ := z1f7 hq;refine HCall.args (z1h0 p first fp pro own their knows early l h1 h3 h6 h7 h8 h9) (by show (z1a q && true) = true; rw [q2]; rfl) ?_
     exact z1b (leV.refl _) (z1b (leV.refl _) (z1b (leV.refl _) (z1b (leV.refl _) (z1b (leV.refl _) (z1b (leV.refl _) (z1b (leV.refl _) (z1b q1 z4w)))))))
    ·simp at h
   ·simp at h)
noncomputable def KM : Ctr Tryz.E := Ctr.or F4 (Ctr.or Ucut (Ctr.or M1 Y4))
noncomputable def goR : List AV → List UInt8 → Bool := (zf fun c b => z8f 1000 c && (z3f (z1k c).1 (z1k c).2 b).2.2 == 0).val
theorem z147 (c : List AV) (b : List UInt8) : goR c b = (z8f 1000 c && (z3f (z1k c).1 (z1k c).2 b).2.2 == 0) := by rw [goR, (zf fun c b => z8f 1000 c && (z3f (z1k c).1 (z1k c).2 b).2.2 == 0).property]
noncomputable def goW : List AV → List UInt8 → List UInt8 → Bool := (zf fun c k b => z8f 1000 c && (z2c (z1k c).1 (z1k c).2 k b).2.2 == 0).val
theorem z12x (c : List AV) (k b : List UInt8) : goW c k b = (z8f 1000 c && (z2c (z1k c).1 (z1k c).2 k b).2.2 == 0) := by rw [goW, (zf fun c k b => z8f 1000 c && (z2c (z1k c).1 (z1k c).2 k b).2.2 == 0).property]
noncomputable def zgc : List AV → Pat := (zf fun c => (z1k c).1).val
theorem zo4 (c : List AV) : zgc c = (z1k c).1 := by rw [zgc, (zf fun c => (z1k c).1).property]
noncomputable def rdX : List AV → List UInt8 → Sh × List UInt8 := (zf fun c b => ((z3f (z1k c).1 (z1k c).2 b).1, (z3f (z1k c).1 (z1k c).2 b).2.1)).val
theorem z145 (c : List AV) (b : List UInt8) : rdX c b = ((z3f (z1k c).1 (z1k c).2 b).1, (z3f (z1k c).1 (z1k c).2 b).2.1) := by rw [rdX, (zf fun c b => ((z3f (z1k c).1 (z1k c).2 b).1, (z3f (z1k c).1 (z1k c).2 b).2.1)).property]
noncomputable def wrX : List AV → List UInt8 → List UInt8 → Sh × List UInt8 := (zf fun c k b => ((z2c (z1k c).1 (z1k c).2 k b).1, (z2c (z1k c).1 (z1k c).2 k b).2.1)).val
theorem z11z (c : List AV) (k b : List UInt8) : wrX c k b = ((z2c (z1k c).1 (z1k c).2 k b).1, (z2c (z1k c).1 (z1k c).2 k b).2.1) := by rw [wrX, (zf fun c k b => ((z2c (z1k c).1 (z1k c).2 k b).1, (z2c (z1k c).1 (z1k c).2 k b).2.1)).property]
noncomputable def goD : List AV → Bool := (zf fun c => z8f 1000 c && (!(z1k c).2.dead && decide (((z1k c).1.turns.length : Int) ≤ (z1k c).2.turn))).val
theorem z153 (c : List AV) : goD c = (z8f 1000 c && (!(z1k c).2.dead && decide (((z1k c).1.turns.length : Int) ≤ (z1k c).2.turn))) := by rw [goD, (zf fun c => z8f 1000 c && (!(z1k c).2.dead && decide (((z1k c).1.turns.length : Int) ≤ (z1k c).2.turn))).property]
theorem z1d9 (p : Pat) (s : Sh) (K : AV → zc → Prop) : walk Tryz.E RSh (Ctr.nil Tryz.E).C (fun _ _ => .unroll 5) 3 15 [shV p s] K =
  (za (!s.dead) (K (.bool (!ltI s.turn (p.turns.length : Nat))) []) (K (.bool false) [])) := by kernel_rfl
theorem z1fl (p : Pat) (s : Sh) (h1 : s.dead = false) (h2 : (p.turns.length : Int) ≤ s.turn) : HCall Tryz.E 15 [shV p s] (.ret (.bool true) []) := by
 refine HCall.of_walk (R := RSh) (T := Ctr.nil Tryz.E) (fun _ _ => .unroll 5) 3 rfl rfl ?_
 rw [z1d9, h1, z1p, decide_eq_false (by omega)]
 exact ⟨rfl, rfl⟩
theorem ztq {m : Nat} {l : List AV} (hp : z8f m (flL l) = true) : ∃ p s, p ∈ z2e ∧ s.psks.length = p.psks.length ∧ OkS m s ∧ z1k (flL l) = (p, s) ∧ leV (.agg l) (shV p s) ∧ zw [AV.agg l] = true := by
 obtain ⟨p, s, h1, h2, h3, h4⟩ := zfs.1 hp;refine ⟨p, s, h1, h2, h3, by rw [h4, z7n], ?_, ?_⟩
 ·have := z4n l;rw [h4] at this; exact this
 ·show (zw l && true) = true;rw [← z8g, h4]; rfl
noncomputable def F5 : Ctr Tryz.E := (((Ctr.nil Tryz.E).add 10 (fun
  | [.agg l, .vec8 _ b] => some (goR (flL l) b, .ret (.tup [shV (zgc (flL l)) (rdX (flL l) b).1, .vec8 false (rdX (flL l) b).2, .int .i64 0]) [])
  | _ => none) (by
   intro args pre out h hp
   split at h
   ·rename_i l fb b;obtain ⟨rfl, rfl⟩ := spE h;rw [z147, Bool.and_eq_true, beq_iff_eq] at hp;obtain ⟨p, s, h1, h2, h3, h4, h5, h6⟩ := ztq hp.1;rw [zo4, z145];rw [h4] at hp ⊢;have := HCall.args (rd_c p s fb b h1 h2 h3) (l' := [.agg l, .vec8 fb b]) h6 (z1b h5 fun _ _ _ _ h => h)
    unfold z7q at this;rw [hp.2] at this; exact this
   ·simp at h)).add 8 (fun
  | [.agg l, .b8 32 k, .vec8 _ b] => some (goW (flL l) k b, .ret (.tup [shV (zgc (flL l)) (wrX (flL l) k b).1, .vec8 false (wrX (flL l) k b).2, .int .i64 0]) [])
  | _ => none) (by
   intro args pre out h hp
   split at h
   ·rename_i l k fb b;obtain ⟨rfl, rfl⟩ := spE h;rw [z12x, Bool.and_eq_true, beq_iff_eq] at hp;obtain ⟨p, s, h1, h2, h3, h4, h5, h6⟩ := ztq hp.1;rw [zo4, z11z];rw [h4] at hp ⊢;have := HCall.args (wr_c p s fb k b h1 h2 h3) (l' := [.agg l, .b8 32 k, .vec8 fb b]) h6 (z1b h5 fun _ _ _ _ h => h)
    unfold z7q at this;rw [hp.2] at this; exact this
   ·simp at h)).add 15 (fun
  | [.agg l] => some (goD (flL l), .ret (.bool true) [])
  | _ => none) (by
   intro args pre out h hp
   split at h
   ·rename_i l;obtain ⟨rfl, rfl⟩ := spE h;rw [z153, Bool.and_eq_true, Bool.and_eq_true, Bool.not_eq_true', decide_eq_true_eq] at hp;obtain ⟨p, s, h1, h2, h3, h4, h5, h6⟩ := ztq hp.1;rw [h4] at hp;exact HCall.args (z1fl p s hp.2.1 hp.2.2) h6 (z1b h5 z4w)
   ·simp at h)
noncomputable def KN : Ctr Tryz.E := Ctr.or F5 KM
def nmB : List UInt8 := [78, 111, 105, 115, 101, 95, 88, 88, 102, 97, 108, 108, 98, 97, 99, 107, 95, 50, 53, 53, 49, 57, 95, 67, 104, 97, 67, 104, 97, 80, 111, 108, 121, 95, 66, 76, 65, 75, 69, 50, 115]
def oneK : List UInt8 := [1, 0, 0, 0, 0, 0, 0, 0, 0, 0, 0, 0, 0, 0, 0, 0, 0, 0, 0, 0, 0, 0, 0, 0, 0, 0, 0, 0, 0, 0, 0, 0]
noncomputable def bkX (a c : List UInt8) : Sh := z7b (zy nmB) true [] a zs false c (zjf 0 (keyF []))
noncomputable def bkY (b c : List UInt8) : Sh := z7b (zy nmB) false [] b zs false (zz c) (zjf 0 (keyF []))
noncomputable def zln (b c d t : List UInt8) : Sh × List UInt8 := wrX (shC (zy nmB) (bkY b c)) d t
noncomputable def zoo (a b c d t : List UInt8) : Sh × List UInt8 := rdX (shC (zy nmB) (bkX a c)) (zln b c d t).2
noncomputable def zur (a c : List UInt8) : Pat := zgc (shC (zy nmB) (bkX a c))
noncomputable def zse (b c : List UInt8) : Pat := zgc (shC (zy nmB) (bkY b c))
noncomputable def z9c (a b c d t : List UInt8) : Sh × List UInt8 := wrX (shC (zur a c) (zoo a b c d t).1) oneK []
noncomputable def zb7 (a b c d t : List UInt8) : Sh × List UInt8 := rdX (shC (zse b c) (zln b c d t).1) (z9c a b c d t).2
theorem z19l (a b c d text : List UInt8) (K : AV → zc → Prop) : walk Tryz.E RSh KN.C (fun _ _ => .unroll 6) 6 3 [.b8 32 a, .b8 32 b, .b8 32 c, .b8 32 d, .str text] K =
  cnd (zkq nmB true [] zs false 0 (keyF [])) (cnd (zkq nmB false [] zs false 0 (keyF []))
  (cnd (goW (shC (zy nmB) (bkY b c)) d (text.take 30)) (cnd (goR (shC (zy nmB) (bkX a c)) (zln b c d (text.take 30)).2)
  (cnd (goW (shC (zur a c) (zoo a b c d (text.take 30)).1) oneK []) (cnd (goR (shC (zse b c) (zln b c d (text.take 30)).1) (z9c a b c d (text.take 30)).2)
  (cnd (goD (shC (zgc (shC (zur a c) (zoo a b c d (text.take 30)).1)) (z9c a b c d (text.take 30)).1)) (cnd (leB (z9c a b c d (text.take 30)).1.ch.length 64)
  (cnd (goD (shC (zgc (shC (zse b c) (zln b c d (text.take 30)).1)) (zb7 a b c d (text.take 30)).1)) (cnd (leB (zb7 a b c d (text.take 30)).1.ch.length 64)
  (za (cond true ((zoo a b c d (text.take 30)).2 == text.take 30) false)
   (za (cond true ((true && (((z25 (z9c a b c d (text.take 30)).1.ch []) == (z25 (zb7 a b c d (text.take 30)).1.ch [])) && true)) && ((true && (((z23 (z9c a b c d (text.take 30)).1.ch []) == (z23 (zb7 a b c d (text.take 30)).1.ch [])) && true)) && true)) false)
    (za (cond true ((z9c a b c d (text.take 30)).1.their == zz b) false)
     (za (cond true ((zb7 a b c d (text.take 30)).1.their == zz a) false)
      (K (.bool (cond true ((((z9c a b c d (text.take 30)).1.sh == (zb7 a b c d (text.take 30)).1.sh) && (((z9c a b c d (text.take 30)).1.ck == (zb7 a b c d (text.take 30)).1.ck) && (((z9c a b c d (text.take 30)).1.n == (zb7 a b c d (text.take 30)).1.n) && true))) && (((z9c a b c d (text.take 30)).1.ch == (zb7 a b c d (text.take 30)).1.ch) && (((z9c a b c d (text.take 30)).1.hs == (zb7 a b c d (text.take 30)).1.hs) && true))) false)) [])
      (K (.bool false) []))
     (K (.bool false) []))
    (K (.bool false) []))
   (K (.bool false) []))))))))))) := by kernel_rfl
theorem zwx {p : Pat} {s : Sh} {sec sec' : List UInt8} (h : ∀ k, ((z12 p s).getD k 0 == 1) = false) : ∀ k, hdW p s sec k = hdW p s sec' k
 | 0 => by rw [zcg, zcg]
 | k + 1 => by
  rw [zce, zce, zwx (sec' := sec') h k];unfold z3d;rw [h k]; rfl
theorem zzm {p : Pat} {s : Sh} {sec sec' b : List UInt8} (h : ∀ k, ((z12 p s).getD k 0 == 1) = false) : z2c p s sec b = z2c p s sec' b := by
 rw [z8l]; unfold z9i
 rw [zwx (sec' := sec') h]
def z5k : Pat := ⟨z191, true, [], [1], [], [[1, 3, 2, 4], [2, 5]]⟩
theorem zpg : z5k ∈ z2e := List.contains_iff_mem.1 (by kernel_rfl)
theorem z8z : z1f z5k = nmB := by kernel_rfl
theorem nameB : zy nmB = z5k := by rw [← z8z]; exact zbk zpg
theorem rows0 : zjf 0 (keyF []) = [] := zuc []
theorem z1f6 (a c : List UInt8) : bkX a c = ⟨true, 0, false, false, zn, 0, zu nmB, sumS (sumS (zu nmB ++ []) ++ zz c), a, c, true, zs, false, zn, false, [], 0⟩ := by
 unfold bkX;rw [nameB, rows0, z4t];unfold z7u;rw [z8z]; rfl
theorem z1fe (b c : List UInt8) : bkY b c = ⟨false, 0, false, false, zn, 0, zu nmB, sumS (sumS (zu nmB ++ []) ++ zz c), b, zn, false, zs, false, zz c, true, [], 0⟩ := by
 unfold bkY;rw [nameB, rows0, z4t];unfold z7u;rw [z8z]; rfl
theorem z16x (a b c d : List UInt8) (la : a.length = 32) (lb : b.length = 32) (lc : c.length = 32) : Two z5k a b c d 0 (bkX a c) (bkY b c) := by
 rw [z1f6, z1fe];refine ⟨⟨_, rfl, fun h => (by cases h), fun _ => ?_⟩, ?_, ?_, rfl, rfl, rfl, rfl, rfl, rfl⟩
 ·exact ⟨rfl, rfl, rfl, rfl, rfl, rfl, rfl, rfl, rfl, rfl, rfl, rfl, fun h => (by cases h), fun _ => ⟨rfl, rfl, rfl, rfl⟩, rfl, rfl, fun h => (by cases h), fun h => (by cases h)⟩
 ·exact ⟨rfl, z3t _, z1l _, la, lc, rfl, rfl, .inr ⟨rfl, rfl, rfl⟩, fun k hk => (by simp at hk), Int.le_refl 0⟩
 ·exact ⟨rfl, z3t _, z1l _, lb, rfl, rfl, z29 _, .inr ⟨rfl, rfl, rfl⟩, fun k hk => (by simp at hk), Int.le_refl 0⟩
theorem zjn (p : Pat) (s : Sh) : zgc (shC p s) = p := by rw [zo4, z7n]
theorem z11g (p : Pat) (s : Sh) (k b : List UInt8) : wrX (shC p s) k b = ((z2c p s k b).1, (z2c p s k b).2.1) := by rw [z11z, z7n]
theorem z14g (p : Pat) (s : Sh) (b : List UInt8) : rdX (shC p s) b = ((z3f p s b).1, (z3f p s b).2.1) := by rw [z145, z7n]
theorem z12i {p : Pat} {s : Sh} {k b : List UInt8} {m : Nat} (hp : p ∈ z2e) (hl : s.psks.length = p.psks.length) (g : OkS m s) (hm : m ≤ 1000) (h : (z2c p s k b).2.2 = 0) : goW (shC p s) k b = true := by
 rw [z12x, z7n, zoy hp hl (g.up hm), h]; rfl
theorem z12d {p : Pat} {s : Sh} {b : List UInt8} {m : Nat} (hp : p ∈ z2e) (hl : s.psks.length = p.psks.length) (g : OkS m s) (hm : m ≤ 1000) (h : (z3f p s b).2.2 = 0) : goR (shC p s) b = true := by
 rw [z147, z7n, zoy hp hl (g.up hm), h]; rfl
theorem z14y {p : Pat} {s : Sh} {m : Nat} (hp : p ∈ z2e) (hl : s.psks.length = p.psks.length) (g : OkS m s) (hm : m ≤ 1000) (h1 : s.dead = false) (h2 : (p.turns.length : Int) ≤ s.turn) : goD (shC p s) = true := by
 rw [z153, z7n, zoy hp hl (g.up hm), h1, decide_eq_true h2]; rfl
theorem zw8 (a b c d text : List UInt8) (_ht : text.length ≤ maxLen) : HCall Tryz.E 3 [.b8 32 a, .b8 32 b, .b8 32 c, .b8 32 d, .str text] (.ret (.bool true) []) := by
 refine HCall.of_len rfl rfl fun hlen => ?_
 have la : a.length = 32 := hlen (.b8 32 a) (by simp)
 have lb : b.length = 32 := hlen (.b8 32 b) (by simp)
 have lc : c.length = 32 := hlen (.b8 32 c) (by simp)
 have ld : d.length = 32 := hlen (.b8 32 d) (by simp)
 refine HCall.of_walk (R := RSh) (T := KN) (fun _ _ => .unroll 6) 6 rfl rfl ?_
 rw [z19l];have lt : (text.take 30).length ≤ 300 := by rw [List.length_take]; omega
 generalize text.take 30 = t at lt ⊢;have hp7 : (z5k.turns.all fun t => decide (t.length ≤ 7)) = true := rfl
 have T0 := z16x a b c d la lb lc;obtain ⟨x1, y1, m1, e1, e2, T1, _⟩ := (zuf (txt := t) la lb lc ld hp7 (show 0 < z5k.turns.length by decide) (by decide) rfl lt T0).2 rfl
 obtain ⟨x2, y2, m2, e3, e4, T2, s1, s2, s3, s4, s5⟩ := (zuf (txt := []) la lb lc ld hp7 (show 1 < z5k.turns.length by decide) (by decide) rfl (by decide) T1).1 rfl
 have hP := zpg;have w1 : zln b c d t = (y1, m1) := by unfold zln; rw [nameB, z11g, e1]
 have r1 : zoo a b c d t = (x1, t) := by unfold zoo; rw [nameB, z14g, w1, e2]
 have pX : zur a c = z5k := by unfold zur; rw [nameB, zjn]
 have pY : zse b c = z5k := by unfold zse; rw [nameB, zjn]
 have tk : z12 z5k x1 = [2, 5] := by unfold z12; rw [T1.tx]; rfl
 have sec : z2c z5k x1 oneK [] = (x2, m2, 0) := by
  rw [zzm (sec' := c), e3];intro k;rw [tk]
  match k with
  | 0 => rfl
  | 1 => rfl
  | k + 2 => rfl
 have w2 : z9c a b c d t = (x2, m2) := by unfold z9c; rw [pX, r1, z11g, sec]
 have r2 : zb7 a b c d t = (y2, []) := by unfold zb7; rw [pY, w1, w2, z14g, e4]
 have l0 : ∀ s : Sh, s.psks.length = z5k.psks.length → s.psks.length = z5k.psks.length := fun _ h => h
 rw [w1, r1, w2, r2, pX, pY, nameB];dsimp only;rw [zjn, zjn];have K1 : zkq nmB true [] zs false 0 (keyF []) = true := zl7.2 ⟨z5k, [], hP, z8z, by decide, rfl, rfl, rfl, .inr rfl, rfl, fun _ => rfl⟩
 have K2 : zkq nmB false [] zs false 0 (keyF []) = true := zl7.2 ⟨z5k, [], hP, z8z, by decide, rfl, rfl, rfl, .inr rfl, rfl, fun _ => rfl⟩
 obtain ⟨f, f1, f2, f3⟩ := T2.fl;have hf : flT z5k 2 = some ⟨true, true, true, true, 0⟩ := rfl;have hf2 : f = ⟨true, true, true, true, 0⟩ := Option.some.inj (f1.symm.trans hf);subst hf2;have S := f3 rfl;refine ze.2 ⟨K1, ze.2 ⟨K2, ze.2 ⟨z12i hP T0.py T0.gy (by decide) (by rw [e1]), ze.2 ⟨z12d hP T0.px T0.gx (by decide) (by rw [e2]), ze.2 ⟨z12i hP T1.px T1.gx (by decide) (by rw [sec]),
  ze.2 ⟨z12d hP T1.py T1.gy (by decide) (by rw [e4]), ze.2 ⟨z14y hP T2.px T2.gx (by decide) T2.dx (by rw [T2.tx]; decide), ze.2 ⟨zp (by rw [T2.gx.ch]; decide), ze.2 ⟨z14y hP T2.py T2.gy (by decide) T2.dy (by rw [T2.ty]; decide), ze.2 ⟨zp (by rw [T2.gy.ch]; decide), ?_⟩⟩⟩⟩⟩⟩⟩⟩⟩⟩
 rw [s1, s2, s3, s4, s5, S.tr rfl, S.tw rfl];simp only [beq_self_eq_true, Bool.and_self, Bool.and_true, cond_true, ite2_true];exact ⟨rfl, rfl⟩
end Go.Proofs.YtehaohfglolljaaGreatDoor