import Derived.Test.YtehaohfglolljaaGreatDoorZzak
import Derived.Test.YtehaohfglolljaaGreatDoorZzao
import Derived.Test.YtehaohfglolljaaGreatDoorZzap
import Derived.Test.YtehaohfglolljaaGreatDoorZzal
import Derived.Test.YtehaohfglolljaaGreatDoorZzag
import Derived.Test.YtehaohfglolljaaGreatDoorZzah
import Derived.KernelRfl
import Derived.Test.YtehaohfglolljaaGreatDoorZzaj
noncomputable section
set_option linter.unusedSimpArgs false
set_option linter.unusedVariables false
namespace Go.Proofs.YtehaohfglolljaaGreatDoor
open Go Go.V Go.Pat
set_option maxRecDepth 100000
def R3 : ROps Tryz.E := ROps.warm (ROps.rune R2)
def D4 : Ctr Tryz.E := Ctr.or Ustr D2
theorem z1hb : zac (fun x : AV × List UInt8 => z5e Tryz.E R3 D4.C (fun _ _ => .unroll 8) 4 33 [x.1] [] (zav (z118 x.2))) tabS = zd8 tabS := by kernel_rfl
theorem z1if (p : Pat) (h : p ∈ z1q) : HCall Tryz.E 33 [z54 p] (.ret (.tup [.str (z16 p), .int .i64 0]) []) :=
 HCall.z1lq (R := R3) (T := D4) (fun _ _ => .unroll 8) 4 (by rw [zw, zba]; rfl) (z91 z1hb _ (z17b h)) (fun _ => z1a3) rfl
theorem z1e3 : zac (fun x : List UInt8 × Pat => z5e Tryz.E R3 D4.C (fun _ _ => .unroll 8) 4 17 [.str x.1] [] (zav (zsb x.2))) zpr = zd8 zpr := by kernel_rfl
theorem z1dq (p : Pat) (h : p ∈ z1q) : HCall Tryz.E 17 [.str (z16 p)] (.ret (.tup [z9w p, .int .i64 0]) []) :=
 HCall.z1lq (R := R3) (T := D4) (fun _ _ => .unroll 8) 4 rfl (z91 z1e3 (z16 p, p) (zhl h)) (fun _ => zvu) rfl
theorem z1cx (p : Pat) (h : p ∈ z1q) : HCall Tryz.E 17 [.str (z16 p)] (.ret (.tup [z54 p, .int .i64 0]) []) :=
 HCall.weak (z1dq p h) (z80 (z14 (zgg _) (z14 (leV.refl _) z3t))) (z3p _ (by show zw _ = true; rw [zw, zba]; rfl) _)
end Go.Proofs.YtehaohfglolljaaGreatDoor
namespace Go.Proofs.YtehaohfglolljaaGreatDoor
open Go Go.V Go.Pat Go.Fld Go.Pol Go.Cha Go.Bla
set_option maxRecDepth 100000
def RSh : ROps Tryz.E := ROps.lit (ROps.z1ms Tryz.E).aggc
end Go.Proofs.YtehaohfglolljaaGreatDoor
namespace Go.Proofs.YtehaohfglolljaaGreatDoor
open Go Go.V Go.Pat Go.Shk
set_option maxRecDepth 100000
def ks4 (p : Pat) (a b c d : List UInt8) : List (List UInt8) := List.take p.psks.length [a, b, c, d]
theorem z1hg {p : Pat} {l : List (List UInt8)} (h : l.length = p.psks.length) (hp : p.psks.length ≤ 4) : ∃ a b c d, l = ks4 p a b c d := by
 unfold ks4;rw [← h] at hp ⊢
 match l, hp with
 | [], _ => exact ⟨[], [], [], [], rfl⟩
 | [a], _ => exact ⟨a, [], [], [], rfl⟩
 | [a, b], _ => exact ⟨a, b, [], [], rfl⟩
 | [a, b, c], _ => exact ⟨a, b, c, [], rfl⟩
 | [a, b, c, d], _ => exact ⟨a, b, c, d, rfl⟩
 | _ :: _ :: _ :: _ :: _ :: _, h => simp at h
theorem zdf {p : Pat} (h : p ∈ z1q) : p.psks.length ≤ 4 := by
 have : (z1q.all fun p => decide (p.psks.length ≤ 4)) = true := by kernel_rfl
 have := List.all_eq_true.1 this p h;simpa using this
theorem z1cn (f de sh has knows saw : Bool) (turn used : Int) (n : UInt64) (ck ch hs own fr their newest a b c d : List UInt8) :
  zac (fun p : Pat => z5e Tryz.E RSh (Ctr.nil Tryz.E).C (fun _ _ => .unroll 8) 4 24 [shA p ⟨f, turn, de, sh, ck, n, ch, hs, own, fr, has, their, knows, newest, saw, ks4 p a b c d, used⟩] [] (z1bl (shA p ⟨f, turn, de, sh, ck, n, ch, hs, own, fr, has, their, knows, newest, saw, ks4 p a b c d, used⟩))) z1q
  = zsj (fun p : Pat => shA p ⟨f, turn, de, sh, ck, n, ch, hs, own, fr, has, their, knows, newest, saw, ks4 p a b c d, used⟩) z1q := by kernel_rfl
theorem z1dm (p : Pat) (s : Sh) (hp : p ∈ z1q) (hl : s.psks.length = p.psks.length) : HCall Tryz.E 24 [shA p s] (.ret (shA p s) []) := by
 obtain ⟨f, turn, de, sh, ck, n, ch, hs, own, fr, has, their, knows, newest, saw, psks, used⟩ := s;obtain ⟨a, b, c, d, rfl⟩ := z1hg hl (zdf hp);refine HCall.z1mg (R := RSh) (T := Ctr.nil Tryz.E) (fun _ _ => .unroll 8) 4 (by rw [zw, zta]; rfl) ?_ (zta _ _)
 exact z17x (z1cn f de sh has knows saw turn used n ck ch hs own fr their newest a b c d) p hp
end Go.Proofs.YtehaohfglolljaaGreatDoor
namespace Go.Proofs.YtehaohfglolljaaGreatDoor
open Go Go.V Go.Pat Go.Fld Go.Pol Go.Cha Go.Bla Go.Shk
set_option maxRecDepth 100000
theorem zbh (has : Bool) (ck hash b : List UInt8) (n : UInt64) : (z2c has ck n hash b).length = (bif has then b.length + 16 else b.length) := by
 rw [zk1, zjr];cases has with
 | true => exact z7o _ _ _ _
 | false => rfl
theorem zr8 {has : Bool} {ck hash b : List UInt8} {n : UInt64} : (z4f has ck n b).length = (bif has then b.length - 16 else b.length) := by
 rw [zoz, zo8];cases has with
 | true => exact zhp _ _ _
 | false => rfl
theorem HCall.vecZ {f : FuncId} {args : List AV} {o o' : Out} (h : HCall Tryz.E f args o) (hle : ∀ v H, o.has v H → okOut o' v H) (ho : o'.okB = true) : HCall Tryz.E f args o' := by
 refine ⟨h.pa, ho, fun ρ I w vs c r => (h.call ρ I w vs c r).mono ?_⟩
 rintro e w' ⟨x, rfl, ρ', I', v, H', gd, c', hr, hh⟩;rcases hle _ _ hh with hh | ⟨v', v'', u, h1, h2, h3, h4⟩
 ·exact ⟨x, rfl, ρ', I', v, H', gd, c', hr, hh⟩
 ·obtain ⟨I2, f1, f2, f3, f4⟩ := zan v I' H' c' (by rw [h1])
  rw [h1] at f1 f2 f4;obtain ⟨c2, g2⟩ := z7n f2 0 (fun e he => by simp at he)
  exact ⟨x, rfl, z7l 0 ρ', I2, v'', [], g2 (gd.trans f1) (fun id h => absurd (c.dom id h) (by simp)) (Nat.le_refl _), c2, z7i h3 (h2 _ _ _ _ (f4 _ hr)), h4⟩
def errZ (e : Int) : Out := .ret (.tup [.agg [.bool false, .b8 32 [0, 0, 0, 0, 0, 0, 0, 0, 0, 0, 0, 0, 0, 0, 0, 0, 0, 0, 0, 0, 0, 0, 0, 0, 0, 0, 0, 0, 0, 0, 0, 0], .u64 0, .b8 32 [0, 0, 0, 0, 0, 0, 0, 0, 0, 0, 0, 0, 0, 0, 0, 0, 0, 0, 0, 0, 0, 0, 0, 0, 0, 0, 0, 0, 0, 0, 0, 0], .b8 32 [0, 0, 0, 0, 0, 0, 0, 0, 0, 0, 0, 0, 0, 0, 0, 0, 0, 0, 0, 0, 0, 0, 0, 0, 0, 0, 0, 0, 0, 0, 0, 0]], .vec8 true [], .int .i64 e]) []
def zsv (has : Bool) (ck : List UInt8) (n : UInt64) (chain hash b : List UInt8) : Out :=
 .alt (z88 has ck n hash b) (.ret (.tup [z7b has ck (symN has n) chain (sumS (hash ++ b)), .vec8 false (z4f has ck n b), .int .i64 0]) []) (errZ (bif ltB b.length 16 then 4 else 10))
theorem z19r (H : Heap) (has : Bool) (ck : List UInt8) (n : UInt64) (chain hash : List UInt8) : z23 H (z7b has ck n chain hash) = (true, z7b has ck n chain hash, []) := by cases H <;> rfl
theorem z122 (has : Bool) (ck : List UInt8) (n : UInt64) (chain hash l : List UInt8) (e : Int) : z3f [.grow8 l []] (.tup [z7b has ck n chain hash, .sl 0 0 1 l.length, .int .i64 e]) = (true, .tup [z7b has ck n chain hash, .vec8 false l, .int .i64 e], [(0, .grow8 l [(0, l.length)])]) := by
 have e1 : zm [Ent.grow8 l []] [] = [Ent.grow8 l []] := rfl;simp only [z3f, z2a, z19r, e1, zuq (show l.length = l.length from rfl)]
 rfl
theorem z1cq (chain hash ck b : List UInt8) (has fb : Bool) (n : UInt64) (h1 : hash.length ≤ 200) (h2 : b.length ≤ 800) (h3 : symK has ck n = true) :
  HCall Tryz.E 57 [.agg [.bool has, .b8 32 ck, .u64 n, .b8 32 chain, .b8 32 hash], .vec8 fb b] (zsv has ck n chain hash b) := by
 cases h4 : z88 has ck n hash b with
 | true =>
  unfold zsv;rw [h4];refine HCall.z1lz rfl rfl ?_;refine HCall.vecZ (zz4 chain hash ck b has fb n h1 h2 h3 h4) (fun v H h => ?_) rfl
  obtain ⟨rfl, rfl⟩ := h;refine okOut.cold (v' := .tup [z7b has ck (symN has n) chain (sumS (hash ++ b)), .vec8 false (z4f has ck n b), .int .i64 0]) (u := [(0, .grow8 (z4f has ck n b) [(0, (z4f has ck n b).length)])]) ?_ (leV.refl _) rfl ⟨rfl, rfl⟩;exact z122 _ _ _ _ _ _ _
 | false =>
  unfold zsv;rw [h4];refine HCall.z1m0 rfl rfl ?_;rw [zps] at h4;cases has with
  | false => exact absurd h4 (by simp [zgt])
  | true =>
  have h4 : (leB 16 b.length && !(zbm ck (z2g n) hash b)) = false := by simpa [zgt] using h4
  rw [zk8] at h3;have h3 : z9d n = false := by simpa [zc1] using h3
  refine HCall.weak (a := AV.tup [AV.agg [AV.agg [AV.bool Bool.false, AV.b8 32 [0, 0, 0, 0, 0, 0, 0, 0, 0, 0, 0, 0, 0, 0, 0, 0, 0, 0, 0, 0, 0, 0, 0, 0, 0, 0, 0, 0, 0, 0, 0, 0], AV.u64 0], AV.b8 32 [0, 0, 0, 0, 0, 0, 0, 0, 0, 0, 0, 0, 0, 0, 0, 0, 0, 0, 0, 0, 0, 0, 0, 0, 0, 0, 0, 0, 0, 0, 0, 0], AV.b8 32 [0, 0, 0, 0, 0, 0, 0, 0, 0, 0, 0, 0, 0, 0, 0, 0, 0, 0, 0, 0, 0, 0, 0, 0, 0, 0, 0, 0, 0, 0, 0, 0]], AV.vec8 Bool.true [], AV.int IntKind.i64 (bif ltB b.length 16 then 4 else 10)]) ?_ (z80 (z14 (z42 _) (z14 (leV.refl _) (z14 (leV.refl _) z3t)))) rfl;refine HCall.z1lg (R := RQ) (T := Y3) (fun f l => .unroll 5) 5 rfl rfl ?_
  rw [zus];dsimp only;rw [z3m (a := 800) (by omega), z3m (a := 200) (by omega), z3m (a := 816) (by omega), zp (a := b.length) (by omega), zp (a := hash.length + b.length) (by omega), h3]
  cases h5 : ltB b.length 16 with
  | true => exact ⟨rfl, rfl⟩
  | false =>
   have h6 : zbm ck (z2g n) hash b = true := by
    rw [zp (z3h h5), Bool.true_and, Bool.not_eq_false'] at h4;exact h4
   rw [h6];exact ⟨rfl, rfl⟩
def Y6 : Ctr Tryz.E := ((Y3.add 54 (fun
  | [.agg [.bool has, .b8 32 ck, .u64 n, .b8 32 chain, .b8 32 hash], .vec8 _ b] => some (leB hash.length 200 && (leB b.length 800 && symK has ck n), zoe has ck n chain hash b)
  | _ => none) (by
   intro args pre out h hp
   split at h
   ·obtain ⟨rfl, rfl⟩ := spE h;simp only [Bool.and_eq_true] at hp;exact zyr _ _ _ _ _ _ _ (zh.1 hp.1) (zh.1 hp.2.1) hp.2.2
   ·simp at h)).add 57 (fun
  | [.agg [.bool has, .b8 32 ck, .u64 n, .b8 32 chain, .b8 32 hash], .vec8 _ b] => some (leB hash.length 200 && (leB b.length 800 && symK has ck n), zsv has ck n chain hash b)
  | _ => none) (by
   intro args pre out h hp
   split at h
   ·obtain ⟨rfl, rfl⟩ := spE h;simp only [Bool.and_eq_true] at hp;exact z1cq _ _ _ _ _ _ _ (zh.1 hp.1) (zh.1 hp.2.1) hp.2.2
   ·simp at h))
def F3 : Ctr Tryz.E := ((Ctr.nil Tryz.E).add 24 (fun
  | [.agg l] => some (isSh (flL l), .ret (.agg (flL l)) [])
  | _ => none) (by
   intro args pre out h hp
   split at h
   ·rename_i l;obtain ⟨rfl, rfl⟩ := spE h;obtain ⟨p, s, h1, h2, h3⟩ := zue.1 hp;rw [h3];have hl : leV (.agg l) (shV p s) := by
     have := z42 l;rw [h3] at this; exact this
    have hpl : zw [AV.agg l] = true := by
     show (zw l && true) = true;rw [← z53, h3]; rfl
    exact HCall.weak (HCall.args (z1dm p s h1 h2) hpl (z14 (hl.trans (z1ix p s)) z3t)) (z1j6 p s) rfl
   ·simp at h)).add 51 (fun
  | [.agg l] => some (isP (flL l), .ret (.int .i64 0) [])
  | _ => none) (by
   intro args pre out h hp
   split at h
   ·rename_i l;obtain ⟨rfl, rfl⟩ := spE h;obtain ⟨p, h1, h3⟩ := zjx.1 hp;have hl : leV (.agg l) (z9w p) := by
     have := z42 l;rw [h3] at this; exact this
    have hpl : zw [AV.agg l] = true := by
     show (zw l && true) = true;rw [← z53, h3]; rfl
    exact HCall.args (z12v p h1) hpl (z14 (hl.trans (zgg p)) z3t)
   ·simp at h)
def KQ : Ctr Tryz.E := Ctr.or F3 (Ctr.or M1 Y6)
structure Hd where
 s : Sh
 out : List UInt8
 inn : List UInt8
 e : Int
def z5t (h : Hd) (e : Int) : Hd := { h with e := e }
def z87 (h : Hd) (k : List UInt8) : Hd := { h with s := { h.s with sh := true, ck := z29 h.s.ch k, n := 0, ch := z28 h.s.ch k } }
def zbt (h : Hd) (k : List UInt8) : Hd := { h with s := { h.s with hs := sumS (h.s.hs ++ k) } }
def dhH (own saw : Bool) (sec pub : List UInt8) (h : Hd) : Hd := bif !own || !saw then z5t h 5 else bif !z3j sec pub then z5t h 12 else z87 h (dhS sec pub)
def ziy (h : Hd) : Hd :=
 { h with s := { h.s with sh := true, ck := za5 h.s.ch (h.s.psks.getD h.s.used.toNat []), n := 0, ch := z28 h.s.ch (h.s.psks.getD h.s.used.toNat []), hs := sumS (h.s.hs ++ z29 h.s.ch (h.s.psks.getD h.s.used.toNat [])), used := h.s.used + 1 } }
def z1y (t : Int) (h : Hd) : Hd :=
 bif t == 3 then dhH h.s.has h.s.saw h.s.fr h.s.newest h
 else bif t == 6 then dhH true h.s.knows h.s.own h.s.their h
 else bif t == 7 then (bif decide ((h.s.psks.length : Int) ≤ h.s.used) then z5t h 5 else ziy h)
 else bif (t == 4) == h.s.first then dhH h.s.has h.s.knows h.s.fr h.s.their h
 else dhH true h.s.saw h.s.own h.s.newest h
def zc0 (b : List UInt8) (h : Hd) : Hd :=
 { h with s := { h.s with n := symN h.s.sh h.s.n, hs := sumS (h.s.hs ++ z2c h.s.sh h.s.ck h.s.n h.s.hs b) }, out := h.out ++ z2c h.s.sh h.s.ck h.s.n h.s.hs b }
def z4y (k : List UInt8) (h : Hd) : Hd := bif decide (0 < h.s.psks.length) then z87 (zbt h k) k else zbt h k
def z3n (sec : List UInt8) (h : Hd) (t : Int) : Hd :=
 bif h.e == 0 then
  bif t == 1 then z4y (zy sec) { h with s := { h.s with fr := sec, has := true }, out := h.out ++ zy sec }
  else bif t == 2 then zc0 (zy h.s.own) h
  else z1y t h
 else h
def z3x (h : Hd) : Nat := bif h.s.sh then 48 else 32
def z2u (h : Hd) (t : Int) : Hd :=
 bif h.e == 0 then
  bif t == 1 then (bif ltB h.inn.length 32 then z5t h 4 else
   z4y (h.inn.take 32) { h with s := { h.s with newest := h.inn.take 32, saw := true }, inn := h.inn.drop 32 })
  else bif t == 2 then (bif ltB h.inn.length (z3x h) then z5t h 4 else
   bif z88 h.s.sh h.s.ck h.s.n h.s.hs (h.inn.take (z3x h)) then
    { h with s := { h.s with n := symN h.s.sh h.s.n, hs := sumS (h.s.hs ++ h.inn.take (z3x h)), their := z4f h.s.sh h.s.ck h.s.n (h.inn.take (z3x h)), knows := true }, inn := h.inn.drop (z3x h) }
   else { h with s := { h.s with knows := true }, inn := h.inn.drop (z3x h), e := bif ltB (h.inn.take (z3x h)).length 16 then 4 else 10 })
  else z1y t h
 else h
def z13 (p : Pat) (s : Sh) : List Int := p.turns.getD s.turn.toNat []
def hdRF (p : Pat) (s : Sh) (b : List UInt8) : Nat → Hd
 | 0 => ⟨s, [], b, 0⟩
 | i + 1 => z2u (hdRF p s b i) ((z13 p s).getD i 0)
def hdR : Pat → Sh → List UInt8 → Nat → Hd := (zf hdRF).val
theorem z14a : hdR = hdRF := by rw [hdR, (zf hdRF).property]
def hdWF (p : Pat) (s : Sh) (sec : List UInt8) : Nat → Hd
 | 0 => ⟨s, [], [], 0⟩
 | i + 1 => z3n sec (hdWF p s sec i) ((z13 p s).getD i 0)
def hdW : Pat → Sh → List UInt8 → Nat → Hd := (zf hdWF).val
theorem z14b : hdW = hdWF := by rw [hdW, (zf hdWF).property]
def hdC (p : Pat) (h : Hd) (out inn : AV) : List AV := [.str p.base, .bool p.late, .vecr false 1 p.psks.length (intF p.psks), .vecr false 1 p.pre0.length (intF p.pre0), .vecr false 1 p.pre1.length (intF p.pre1), .vecr false 1 p.turns.length (trF p.turns), .bool h.s.first, .int .i64 h.s.turn, .bool h.s.dead, .bool h.s.sh, .b8 32 h.s.ck, .u64 h.s.n, .b8 32 h.s.ch, .b8 32 h.s.hs, .b8 32 h.s.own, .b8 32 h.s.fr, .bool h.s.has, .b8 32 h.s.their, .bool h.s.knows, .b8 32 h.s.newest, .bool h.s.saw, .vecr false 32 h.s.psks.length (keyF h.s.psks), .int .i64 h.s.used, out, inn, .int .i64 h.e]
def z1b5 (p : Pat) (s : Sh) (b : List UInt8) (f _r : Nat) : LPlan := bif f == 10 then
 .mv [1, 2, 4, 5, 6, 8, 34, 35] [35] Nat Inv.upTo Inv.up (fun _ => []) (fun _ i => [(36, .int .i64 ((i : Nat) : Int))]) (fun _ i => [(2, .blk (hdC p (hdR p s b i) (.vec8 true []) (.vec8 false (hdR p s b i).inn)) [])]) (fun _ => []) else .none
def outOf (c : List AV) : AV := (flL c).getD 23 .any
def z14o (p : Pat) (s : Sh) (sec : List UInt8) (f _r : Nat) : LPlan := bif f == 8 then
 .mv [2, 3, 4, 6, 7, 8, 10, 34, 35] [35] Nat Inv.upTo Inv.up (fun st => match st.H.getD 3 .dead with | .blk c _ => [outOf c] | _ => []) (fun _ i => [(36, .int .i64 ((i : Nat) : Int))])
  (fun n i => [(3, .blk (hdC p (hdW p s sec i) (.sl n 0 1 (hdW p s sec i).out.length) (.vec8 true [])) [])]) (fun i => [.grow8 (hdW p s sec i).out []]) else .none
def zmk : List UInt8 := [0, 0, 0, 0, 0, 0, 0, 0, 0, 0, 0, 0, 0, 0, 0, 0, 0, 0, 0, 0, 0, 0, 0, 0, 0, 0, 0, 0, 0, 0, 0, 0]
def zks : List AV := [.str [], .bool false, .vec true 1 [], .vec true 1 [], .vec true 1 [], .vec true 1 [], .bool false, .int .i64 0, .bool false, .bool false, .b8 32 zmk, .u64 0, .b8 32 zmk, .b8 32 zmk, .b8 32 zmk, .b8 32 zmk, .bool false, .b8 32 zmk, .bool false, .b8 32 zmk, .bool false, .vec true 32 [], .int .i64 0]
def z129 (p : Pat) (s : Sh) (b : List UInt8) (c : Int) (w : Nat) (k : Prop) : Prop :=
 (b = b) ∧ (([] : List UInt8) = []) ∧ (AV.int .i64 0 = AV.int .i64 0) ∧ ((z13 p s).length = (z13 p s).length) ∧ (∀ x : Nat, x < (z13 p s).length → leR [AV.int .i64 ((z13 p s).getD x 0)] [AV.int .i64 ((z13 p s).getD x 0)]) ∧
  (AV.int .i64 ((z13 p s).length : Int) = AV.int .i64 ((z13 p s).length : Int)) ∧ (AV.int .i64 c = AV.int .i64 ((w : Nat) : Int)) ∧ z9u 0 [] (shC p s) (shC p s) k
def z19 (p : Pat) (s : Sh) (fb : Bool) (b : List UInt8) (i : Nat) (c : Int) (A : Hd) : Prop :=
 ∃ w : Nat, ((Inv.up w < Inv.up i) ∧ Inv.upTo [AV.int .i64 ((z13 p s).length : Int)] w) ∧ cnd (fb || !fb) (z129 p s b c w (z9u 0 [] zks zks
  (z9u 0 [] (hdC p A (.vec8 true []) (.vec8 false A.inn)) (hdC p (hdR p s b w) (.vec8 true []) (.vec8 false (hdR p s b w).inn)) True)))
def z1x (p : Pat) (s : Sh) (fb : Bool) (sec b : List UInt8) (i : Nat) (c : Int) (m : Nat) (A : Hd) : Prop :=
 ∃ w : Nat, ((Inv.up w < Inv.up i) ∧ Inv.upTo [AV.int .i64 ((z13 p s).length : Int)] w) ∧ cnd (fb || !fb) (z129 p s b c w ((AV.b8 32 sec = AV.b8 32 sec) ∧ z9u 0 [] zks zks
  (z9u 0 [] (hdC p A (.int .i64 0) (.vec8 true [])).dropLast.dropLast.dropLast (hdC p (hdW p s sec w) (.int .i64 0) (.vec8 true [])).dropLast.dropLast.dropLast
   ((m = (hdW p s sec w).out.length) ∧ (([] : List UInt8) = []) ∧ (AV.int .i64 A.e = AV.int .i64 (hdW p s sec w).e) ∧ (A.out = (hdW p s sec w).out) ∧ True))))
theorem z17v (p : Pat) (s : Sh) {k : Prop} (hk : k) : z9u 0 [] (shC p s) (shC p s) k := And.intro rfl (And.intro rfl (And.intro rfl (And.intro (fun x _ => leR.refl rfl) (And.intro rfl (And.intro (fun x _ => leR.refl rfl) (And.intro rfl (And.intro (fun x _ => leR.refl rfl) (And.intro rfl (And.intro (fun x _ => leR.refl rfl) (And.intro rfl (And.intro rfl (And.intro rfl (And.intro rfl (And.intro rfl (And.intro rfl (And.intro rfl (And.intro rfl (And.intro rfl (And.intro rfl (And.intro rfl (And.intro rfl (And.intro rfl (And.intro rfl (And.intro rfl (And.intro rfl (And.intro (fun x _ => leR.refl rfl) (And.intro rfl (hk))))))))))))))))))))))))))))
theorem znv {k : Prop} (hk : k) : z9u 0 [] zks zks k := And.intro rfl (And.intro rfl (And.intro rfl (And.intro rfl (And.intro rfl (And.intro rfl (And.intro rfl (And.intro rfl (And.intro rfl (And.intro rfl (And.intro rfl (And.intro rfl (And.intro rfl (And.intro rfl (And.intro rfl (And.intro rfl (And.intro rfl (And.intro rfl (And.intro rfl (And.intro rfl (And.intro rfl (And.intro rfl (And.intro rfl (hk)))))))))))))))))))))))
theorem z1a7 (p : Pat) (h : Hd) {k : Prop} (hk : k) : z9u 0 [] (hdC p h (.vec8 true []) (.vec8 false h.inn)) (hdC p h (.vec8 true []) (.vec8 false h.inn)) k := And.intro rfl (And.intro rfl (And.intro rfl (And.intro (fun x _ => leR.refl rfl) (And.intro rfl (And.intro (fun x _ => leR.refl rfl) (And.intro rfl (And.intro (fun x _ => leR.refl rfl) (And.intro rfl (And.intro (fun x _ => leR.refl rfl) (And.intro rfl (And.intro rfl (And.intro rfl (And.intro rfl (And.intro rfl (And.intro rfl (And.intro rfl (And.intro rfl (And.intro rfl (And.intro rfl (And.intro rfl (And.intro rfl (And.intro rfl (And.intro rfl (And.intro rfl (And.intro rfl (And.intro (fun x _ => leR.refl rfl) (And.intro rfl (And.intro rfl (And.intro rfl (And.intro rfl (hk)))))))))))))))))))))))))))))))
theorem z1ai (p : Pat) (h : Hd) {k : Prop} (hk : k) : z9u 0 [] (hdC p h (.int .i64 0) (.vec8 true [])).dropLast.dropLast.dropLast (hdC p h (.int .i64 0) (.vec8 true [])).dropLast.dropLast.dropLast k := And.intro rfl (And.intro rfl (And.intro rfl (And.intro (fun x _ => leR.refl rfl) (And.intro rfl (And.intro (fun x _ => leR.refl rfl) (And.intro rfl (And.intro (fun x _ => leR.refl rfl) (And.intro rfl (And.intro (fun x _ => leR.refl rfl) (And.intro rfl (And.intro rfl (And.intro rfl (And.intro rfl (And.intro rfl (And.intro rfl (And.intro rfl (And.intro rfl (And.intro rfl (And.intro rfl (And.intro rfl (And.intro rfl (And.intro rfl (And.intro rfl (And.intro rfl (And.intro rfl (And.intro (fun x _ => leR.refl rfl) (And.intro rfl (hk))))))))))))))))))))))))))))
theorem zvb {p : Pat} {s : Sh} {b : List UInt8} {w : Nat} {k : Prop} (hk : k) : z129 p s b (w : Int) w k :=
 ⟨rfl, rfl, rfl, rfl, fun _ _ => leR.refl rfl, rfl, rfl, z17v p s hk⟩
theorem z17c {p : Pat} {s : Sh} {fb : Bool} {b : List UInt8} {i : Nat} {A : Hd} (hi : i < (z13 p s).length) (ht : (z13 p s).length < 1000) (h1 : A.s = (hdR p s b (i + 1)).s) (h2 : A.inn = (hdR p s b (i + 1)).inn) (h3 : A.e = (hdR p s b (i + 1)).e) :
  z19 p s fb b i (wr .i64 ((i : Int) + 1)) A := by
 have hw : wr .i64 ((i : Int) + 1) = ((i + 1 : Nat) : Int) := by rw [z2f (by omega) (by omega)]; rfl
 rw [hw];refine ⟨i + 1, ⟨Inv.up_lt (by omega), Inv.upTo_int.2 (by omega)⟩, zd.2 ⟨by cases fb <;> rfl, zvb (znv ?_)⟩⟩
 have e : hdC p A (.vec8 true []) (.vec8 false A.inn) = hdC p (hdR p s b (i + 1)) (.vec8 true []) (.vec8 false (hdR p s b (i + 1)).inn) := by
  unfold hdC; rw [h1, h2, h3]
 rw [e];exact z1a7 p _ trivial
theorem z17h {p : Pat} {s : Sh} {fb : Bool} {sec b : List UInt8} {i m : Nat} {A : Hd} (hi : i < (z13 p s).length) (ht : (z13 p s).length < 1000) (h1 : A.s = (hdW p s sec (i + 1)).s) (h2 : A.out = (hdW p s sec (i + 1)).out) (h3 : A.e = (hdW p s sec (i + 1)).e)
  (h4 : m = A.out.length) : z1x p s fb sec b i (wr .i64 ((i : Int) + 1)) m A := by
 have hw : wr .i64 ((i : Int) + 1) = ((i + 1 : Nat) : Int) := by rw [z2f (by omega) (by omega)]; rfl
 rw [hw];refine ⟨i + 1, ⟨Inv.up_lt (by omega), Inv.upTo_int.2 (by omega)⟩, zd.2 ⟨by cases fb <;> rfl, zvb ⟨rfl, znv ?_⟩⟩⟩
 have e : (hdC p A (.int .i64 0) (.vec8 true [])).dropLast.dropLast.dropLast = (hdC p (hdW p s sec (i + 1)) (.int .i64 0) (.vec8 true [])).dropLast.dropLast.dropLast := by
  show shC p A.s = shC p (hdW p s sec (i + 1)).s;rw [h1]
 rw [e];exact z1ai p _ ⟨by rw [h4, h2], rfl, by rw [h3], h2, trivial⟩
set_option maxHeartbeats 0
theorem z1iy (p : Pat) (s : Sh) (fb : Bool) (b : List UInt8) (K : AV → Heap → Prop) : walk Tryz.E RSh KQ.C (z1b5 p s b) 6 10 [shV p s, .vec8 fb b] K = (
 let x0 : Bool := Shk.Sh.dead s
 let x1 : Bool := (Pat.Pat.late p)
 let x2 : List Int := (Pat.Pat.psks p)
 let x3 : Nat := x2.length
 let x4 : List Int := (Pat.Pat.pre0 p)
 let x5 : Nat := x4.length
 let x6 : List Int := (Pat.Pat.pre1 p)
 let x7 : Nat := x6.length
 let x8 : List (List Int) := (Pat.Pat.turns p)
 let x9 : Nat := x8.length
 let x10 : Bool := (Shk.Sh.first s)
 let x11 : Int := (Shk.Sh.turn s)
 let x12 : List (List UInt8) := (Shk.Sh.psks s)
 let x13 : Nat := x12.length
 let x14 : Int := (Shk.Sh.used s)
 let x15 : List AV := [.str (Pat.Pat.base p), .bool x1, .vecr false 1 x3 (Pat.intF x2), .vecr false 1 x5 (Pat.intF x4), .vecr false 1 x7 (Pat.intF x6), .vecr false 1 x9 (Pat.trF x8), .bool x10, .int .i64 x11, .bool x0, .bool (Shk.Sh.sh s), .b8 32 (Shk.Sh.ck s), .u64 (Shk.Sh.n s), .b8 32 (Shk.Sh.ch s), .b8 32 (Shk.Sh.hs s), .b8 32 (Shk.Sh.own s), .b8 32 (Shk.Sh.fr s), .bool (Shk.Sh.has s), .b8 32 (Shk.Sh.their s), .bool (Shk.Sh.knows s), .b8 32 (Shk.Sh.newest s), .bool (Shk.Sh.saw s), .vecr false 32 x13 (Shk.keyF x12), .int .i64 x14]
 let x16 : List Int := (List.getD x8 (Int.toNat x11) [])
 let x17 : Nat := x16.length
 let x18 : Int := (x17 : Int)
 let x19 : Bool := fb || (Bool.not fb)
 let x20 : List UInt8 := (List.take 32 [])
 let x21 : List AV := [.str (Pat.Pat.base p), .bool x1, .vecr false 1 x3 (Pat.intF x2), .vecr false 1 x5 (Pat.intF x4), .vecr false 1 x7 (Pat.intF x6), .vecr false 1 x9 (Pat.trF x8), .bool x10, .int .i64 x11, .bool true, .bool (Shk.Sh.sh s), .b8 32 (Shk.Sh.ck s), .u64 (Shk.Sh.n s), .b8 32 (Shk.Sh.ch s), .b8 32 (Shk.Sh.hs s), .b8 32 (Shk.Sh.own s), .b8 32 (Shk.Sh.fr s), .bool (Shk.Sh.has s), .b8 32 (Shk.Sh.their s), .bool (Shk.Sh.knows s), .b8 32 (Shk.Sh.newest s), .bool (Shk.Sh.saw s), .vecr false 32 x13 (Shk.keyF x12), .int .i64 x14]
 za (x0)
 (cnd (Shk.isSh x15)
 (K (.tup [.agg x15, .vec8 true [], .int .i64 9]) []))
 (za (cond false true (ltI x11 0))
 (cnd (Shk.isSh x15)
 (K (.tup [.agg x15, .vec8 true [], .int .i64 9]) []))
 (za (cond false true (Bool.not (ltI x11 (x9 : Int))))
 (cnd (Shk.isSh x15)
 (K (.tup [.agg x15, .vec8 true [], .int .i64 9]) []))
 (za (cond false true ((((Int.tmod x11 2) == 0) == (x10 != x1)) != false))
 (cnd (Shk.isSh x15)
 (K (.tup [.agg x15, .vec8 true [], .int .i64 9]) []))
 (cnd (Shk.isP [.str (Pat.Pat.base p), .bool x1, .vecr false 1 x3 (Pat.intF x2), .vecr false 1 x5 (Pat.intF x4), .vecr false 1 x7 (Pat.intF x6), .vecr false 1 x9 (Pat.trF x8)])
 (za (cond false true (ltI x14 0))
 (cnd (Shk.isSh x15)
 (K (.tup [.agg x15, .vec8 true [], .int .i64 9]) []))
 (za (ltI 800 ((b.length : Nat) : Int))
 (cnd (Shk.isSh x15)
 (K (.tup [.agg x15, .vec8 true [], .int .i64 1]) []))
 (cnd ((inB x11 x9) && true)
 ((∃ w0 : Nat, (Inv.upTo [.int .i64 x18] w0) ∧ cnd (x19)
 ((b = b) ∧ ((([] : List UInt8) = []) ∧ ((AV.int .i64 0 = .int .i64 0) ∧ ((x17 = x17) ∧ ((∀ w1 : Nat, (w1 < x17 → leR [.int .i64 (List.getD x16 w1 0)] [.int .i64 (List.getD x16 w1 0)])) ∧ ((AV.int .i64 x18 = .int .i64 x18) ∧ ((AV.int .i64 0 = .int .i64 (w0 : Int)) ∧ ((AV.str (Pat.Pat.base p) = .str (Pat.Pat.base p)) ∧ ((AV.bool x1 = .bool x1) ∧ ((x3 = x3) ∧ ((∀ w2 : Nat, (w2 < x3 → leR [.int .i64 (List.getD x2 w2 0)] [.int .i64 (List.getD x2 w2 0)])) ∧ ((x5 = x5) ∧ ((∀ w3 : Nat, (w3 < x5 → leR [.int .i64 (List.getD x4 w3 0)] [.int .i64 (List.getD x4 w3 0)])) ∧ ((x7 = x7) ∧ ((∀ w4 : Nat, (w4 < x7 → leR [.int .i64 (List.getD x6 w4 0)] [.int .i64 (List.getD x6 w4 0)])) ∧ ((x9 = x9) ∧ ((∀ w5 : Nat, (w5 < x9 → leR [.vecr false 1 (List.getD x8 w5 []).length (Pat.intF (List.getD x8 w5 []))] [.vecr false 1 (List.getD x8 w5 []).length (Pat.intF (List.getD x8 w5 []))])) ∧ ((AV.bool x10 = .bool x10) ∧ ((AV.int .i64 x11 = .int .i64 x11) ∧ ((AV.bool x0 = .bool x0) ∧ ((AV.bool (Shk.Sh.sh s) = .bool (Shk.Sh.sh s)) ∧ ((AV.b8 32 (Shk.Sh.ck s) = .b8 32 (Shk.Sh.ck s)) ∧ ((AV.u64 (Shk.Sh.n s) = .u64 (Shk.Sh.n s)) ∧ ((AV.b8 32 (Shk.Sh.ch s) = .b8 32 (Shk.Sh.ch s)) ∧ ((AV.b8 32 (Shk.Sh.hs s) = .b8 32 (Shk.Sh.hs s)) ∧ ((AV.b8 32 (Shk.Sh.own s) = .b8 32 (Shk.Sh.own s)) ∧ ((AV.b8 32 (Shk.Sh.fr s) = .b8 32 (Shk.Sh.fr s)) ∧ ((AV.bool (Shk.Sh.has s) = .bool (Shk.Sh.has s)) ∧ ((AV.b8 32 (Shk.Sh.their s) = .b8 32 (Shk.Sh.their s)) ∧ ((AV.bool (Shk.Sh.knows s) = .bool (Shk.Sh.knows s)) ∧ ((AV.b8 32 (Shk.Sh.newest s) = .b8 32 (Shk.Sh.newest s)) ∧ ((AV.bool (Shk.Sh.saw s) = .bool (Shk.Sh.saw s)) ∧ ((x13 = x13) ∧ ((∀ w6 : Nat, (w6 < x13 → leR [.b8 32 (List.getD x12 w6 [])] [.b8 32 (List.getD x12 w6 [])])) ∧ ((AV.int .i64 x14 = .int .i64 x14) ∧ ((AV.str [] = .str []) ∧ ((AV.bool false = .bool false) ∧ ((AV.vec true 1 [] = .vec true 1 []) ∧ ((AV.vec true 1 [] = .vec true 1 []) ∧ ((AV.vec true 1 [] = .vec true 1 []) ∧ ((AV.vec true 1 [] = .vec true 1 []) ∧ ((AV.bool false = .bool false) ∧ ((AV.int .i64 0 = .int .i64 0) ∧ ((AV.bool false = .bool false) ∧ ((AV.bool false = .bool false) ∧ ((AV.b8 32 [0, 0, 0, 0, 0, 0, 0, 0, 0, 0, 0, 0, 0, 0, 0, 0, 0, 0, 0, 0, 0, 0, 0, 0, 0, 0, 0, 0, 0, 0, 0, 0] = .b8 32 [0, 0, 0, 0, 0, 0, 0, 0, 0, 0, 0, 0, 0, 0, 0, 0, 0, 0, 0, 0, 0, 0, 0, 0, 0, 0, 0, 0, 0, 0, 0, 0]) ∧ ((AV.u64 0 = .u64 0) ∧ ((AV.b8 32 [0, 0, 0, 0, 0, 0, 0, 0, 0, 0, 0, 0, 0, 0, 0, 0, 0, 0, 0, 0, 0, 0, 0, 0, 0, 0, 0, 0, 0, 0, 0, 0] = .b8 32 [0, 0, 0, 0, 0, 0, 0, 0, 0, 0, 0, 0, 0, 0, 0, 0, 0, 0, 0, 0, 0, 0, 0, 0, 0, 0, 0, 0, 0, 0, 0, 0]) ∧ ((AV.b8 32 [0, 0, 0, 0, 0, 0, 0, 0, 0, 0, 0, 0, 0, 0, 0, 0, 0, 0, 0, 0, 0, 0, 0, 0, 0, 0, 0, 0, 0, 0, 0, 0] = .b8 32 [0, 0, 0, 0, 0, 0, 0, 0, 0, 0, 0, 0, 0, 0, 0, 0, 0, 0, 0, 0, 0, 0, 0, 0, 0, 0, 0, 0, 0, 0, 0, 0]) ∧ ((AV.b8 32 [0, 0, 0, 0, 0, 0, 0, 0, 0, 0, 0, 0, 0, 0, 0, 0, 0, 0, 0, 0, 0, 0, 0, 0, 0, 0, 0, 0, 0, 0, 0, 0] = .b8 32 [0, 0, 0, 0, 0, 0, 0, 0, 0, 0, 0, 0, 0, 0, 0, 0, 0, 0, 0, 0, 0, 0, 0, 0, 0, 0, 0, 0, 0, 0, 0, 0]) ∧ ((AV.b8 32 [0, 0, 0, 0, 0, 0, 0, 0, 0, 0, 0, 0, 0, 0, 0, 0, 0, 0, 0, 0, 0, 0, 0, 0, 0, 0, 0, 0, 0, 0, 0, 0] = .b8 32 [0, 0, 0, 0, 0, 0, 0, 0, 0, 0, 0, 0, 0, 0, 0, 0, 0, 0, 0, 0, 0, 0, 0, 0, 0, 0, 0, 0, 0, 0, 0, 0]) ∧ ((AV.bool false = .bool false) ∧ ((AV.b8 32 [0, 0, 0, 0, 0, 0, 0, 0, 0, 0, 0, 0, 0, 0, 0, 0, 0, 0, 0, 0, 0, 0, 0, 0, 0, 0, 0, 0, 0, 0, 0, 0] = .b8 32 [0, 0, 0, 0, 0, 0, 0, 0, 0, 0, 0, 0, 0, 0, 0, 0, 0, 0, 0, 0, 0, 0, 0, 0, 0, 0, 0, 0, 0, 0, 0, 0]) ∧ ((AV.bool false = .bool false) ∧ ((AV.b8 32 [0, 0, 0, 0, 0, 0, 0, 0, 0, 0, 0, 0, 0, 0, 0, 0, 0, 0, 0, 0, 0, 0, 0, 0, 0, 0, 0, 0, 0, 0, 0, 0] = .b8 32 [0, 0, 0, 0, 0, 0, 0, 0, 0, 0, 0, 0, 0, 0, 0, 0, 0, 0, 0, 0, 0, 0, 0, 0, 0, 0, 0, 0, 0, 0, 0, 0]) ∧ ((AV.bool false = .bool false) ∧ ((AV.vec true 32 [] = .vec true 32 []) ∧ ((AV.int .i64 0 = .int .i64 0) ∧ ((AV.str (Pat.Pat.base p) = .str (Pat.Pat.base p)) ∧ ((AV.bool x1 = .bool x1) ∧ ((x3 = x3) ∧ ((∀ w7 : Nat, (w7 < x3 → leR [.int .i64 (List.getD x2 w7 0)] [.int .i64 (List.getD x2 w7 0)])) ∧ ((x5 = x5) ∧ ((∀ w8 : Nat, (w8 < x5 → leR [.int .i64 (List.getD x4 w8 0)] [.int .i64 (List.getD x4 w8 0)])) ∧ ((x7 = x7) ∧ ((∀ w9 : Nat, (w9 < x7 → leR [.int .i64 (List.getD x6 w9 0)] [.int .i64 (List.getD x6 w9 0)])) ∧ ((x9 = x9) ∧ ((∀ w10 : Nat, (w10 < x9 → leR [.vecr false 1 (List.getD x8 w10 []).length (Pat.intF (List.getD x8 w10 []))] [.vecr false 1 (List.getD x8 w10 []).length (Pat.intF (List.getD x8 w10 []))])) ∧ ((AV.bool x10 = .bool (Shk.Sh.first (Hd.s (hdR p s b w0)))) ∧ ((AV.int .i64 x11 = .int .i64 (Shk.Sh.turn (Hd.s (hdR p s b w0)))) ∧ ((AV.bool x0 = .bool (Shk.Sh.dead (Hd.s (hdR p s b w0)))) ∧ ((AV.bool (Shk.Sh.sh s) = .bool (Shk.Sh.sh (Hd.s (hdR p s b w0)))) ∧ ((AV.b8 32 (Shk.Sh.ck s) = .b8 32 (Shk.Sh.ck (Hd.s (hdR p s b w0)))) ∧ ((AV.u64 (Shk.Sh.n s) = .u64 (Shk.Sh.n (Hd.s (hdR p s b w0)))) ∧ ((AV.b8 32 (Shk.Sh.ch s) = .b8 32 (Shk.Sh.ch (Hd.s (hdR p s b w0)))) ∧ ((AV.b8 32 (Shk.Sh.hs s) = .b8 32 (Shk.Sh.hs (Hd.s (hdR p s b w0)))) ∧ ((AV.b8 32 (Shk.Sh.own s) = .b8 32 (Shk.Sh.own (Hd.s (hdR p s b w0)))) ∧ ((AV.b8 32 (Shk.Sh.fr s) = .b8 32 (Shk.Sh.fr (Hd.s (hdR p s b w0)))) ∧ ((AV.bool (Shk.Sh.has s) = .bool (Shk.Sh.has (Hd.s (hdR p s b w0)))) ∧ ((AV.b8 32 (Shk.Sh.their s) = .b8 32 (Shk.Sh.their (Hd.s (hdR p s b w0)))) ∧ ((AV.bool (Shk.Sh.knows s) = .bool (Shk.Sh.knows (Hd.s (hdR p s b w0)))) ∧ ((AV.b8 32 (Shk.Sh.newest s) = .b8 32 (Shk.Sh.newest (Hd.s (hdR p s b w0)))) ∧ ((AV.bool (Shk.Sh.saw s) = .bool (Shk.Sh.saw (Hd.s (hdR p s b w0)))) ∧ ((x13 = List.length (Shk.Sh.psks (Hd.s (hdR p s b w0)))) ∧ ((∀ w11 : Nat, (w11 < (Shk.Sh.psks (Hd.s (hdR p s b w0))).length → leR [.b8 32 (List.getD x12 w11 [])] [.b8 32 (List.getD (Shk.Sh.psks (Hd.s (hdR p s b w0))) w11 [])])) ∧ ((AV.int .i64 x14 = .int .i64 (Shk.Sh.used (Hd.s (hdR p s b w0)))) ∧ ((([] : List UInt8) = []) ∧ cnd (fb || true)
 ((b = Hd.inn (hdR p s b w0)) ∧ ((AV.int .i64 0 = .int .i64 (Hd.e (hdR p s b w0))) ∧ True)))))))))))))))))))))))))))))))))))))))))))))))))))))))))))))))))))))))))))))))))))))))))) ∧ (∀ w12 : Nat, (Inv.upTo [.int .i64 x18] w12 → let hv : Shk.Sh := (Hd.s (hdR p s b w12))
 let u0 := (Shk.Sh.mk hv.first hv.turn hv.dead hv.sh hv.ck hv.n hv.ch hv.hs hv.own hv.fr hv.has hv.their hv.knows hv.newest hv.saw hv.psks hv.used)
 let u1 : List AV := [.str (Pat.Pat.base p), .bool x1, .vecr false 1 x3 (Pat.intF x2), .vecr false 1 x5 (Pat.intF x4), .vecr false 1 x7 (Pat.intF x6), .vecr false 1 x9 (Pat.trF x8), .bool hv.first, .int .i64 (wr .i64 (hv.turn + 1)), .bool hv.dead, .bool hv.sh, .b8 32 hv.ck, .u64 hv.n, .b8 32 hv.ch, .b8 32 hv.hs, .b8 32 hv.own, .b8 32 hv.fr, .bool hv.has, .b8 32 hv.their, .bool hv.knows, .b8 32 hv.newest, .bool hv.saw, .vecr false 32 (List.length hv.psks) (Shk.keyF hv.psks), .int .i64 hv.used]
 let u2 := (wr .i64 ((w12 : Int) + 1))
 let u3 := (zx Option.none (Option.some 32) (Hd.inn (hdR p s b w12)))
 let u4 := (Shk.Sh.mk hv.first hv.turn hv.dead hv.sh hv.ck hv.n hv.ch hv.hs hv.own hv.fr hv.has (x20 ++ (List.drop 0 hv.their)) true hv.newest hv.saw hv.psks hv.used)
 let u5 := (Hd.mk u0 [] (Hd.inn (hdR p s b w12)) (Hd.e (hdR p s b w12)))
 let u6 : List AV := [.str (Pat.Pat.base p), .bool x1, .vecr false 1 x3 (Pat.intF x2), .vecr false 1 x5 (Pat.intF x4), .vecr false 1 x7 (Pat.intF x6), .vecr false 1 x9 (Pat.trF x8), .bool hv.first, .int .i64 (wr .i64 (hv.turn + 1)), .bool hv.dead, .bool false, .b8 32 [0, 0, 0, 0, 0, 0, 0, 0, 0, 0, 0, 0, 0, 0, 0, 0, 0, 0, 0, 0, 0, 0, 0, 0, 0, 0, 0, 0, 0, 0, 0, 0], .u64 0, .b8 32 [0, 0, 0, 0, 0, 0, 0, 0, 0, 0, 0, 0, 0, 0, 0, 0, 0, 0, 0, 0, 0, 0, 0, 0, 0, 0, 0, 0, 0, 0, 0, 0], .b8 32 [0, 0, 0, 0, 0, 0, 0, 0, 0, 0, 0, 0, 0, 0, 0, 0, 0, 0, 0, 0, 0, 0, 0, 0, 0, 0, 0, 0, 0, 0, 0, 0], .b8 32 hv.own, .b8 32 hv.fr, .bool hv.has, .b8 32 hv.their, .bool hv.knows, .b8 32 hv.newest, .bool hv.saw, .vecr false 32 (List.length hv.psks) (Shk.keyF hv.psks), .int .i64 hv.used]
 let u7 : List AV := [.str (Pat.Pat.base p), .bool x1, .vecr false 1 x3 (Pat.intF x2), .vecr false 1 x5 (Pat.intF x4), .vecr false 1 x7 (Pat.intF x6), .vecr false 1 x9 (Pat.trF x8), .bool hv.first, .int .i64 (wr .i64 (hv.turn + 1)), .bool hv.dead, .bool hv.sh, .b8 32 hv.ck, .u64 (symN hv.sh hv.n), .b8 32 hv.ch, .b8 32 (Bla.sumS (hv.hs ++ (Hd.inn (hdR p s b w12)))), .b8 32 hv.own, .b8 32 hv.fr, .bool hv.has, .b8 32 hv.their, .bool hv.knows, .b8 32 hv.newest, .bool hv.saw, .vecr false 32 (List.length hv.psks) (Shk.keyF hv.psks), .int .i64 hv.used]
 let u8 := (Shk.Sh.mk hv.first hv.turn hv.dead false [0, 0, 0, 0, 0, 0, 0, 0, 0, 0, 0, 0, 0, 0, 0, 0, 0, 0, 0, 0, 0, 0, 0, 0, 0, 0, 0, 0, 0, 0, 0, 0] 0 [0, 0, 0, 0, 0, 0, 0, 0, 0, 0, 0, 0, 0, 0, 0, 0, 0, 0, 0, 0, 0, 0, 0, 0, 0, 0, 0, 0, 0, 0, 0, 0] [0, 0, 0, 0, 0, 0, 0, 0, 0, 0, 0, 0, 0, 0, 0, 0, 0, 0, 0, 0, 0, 0, 0, 0, 0, 0, 0, 0, 0, 0, 0, 0] hv.own hv.fr hv.has (x20 ++ (List.drop 0 hv.their)) true hv.newest hv.saw hv.psks hv.used)
 let u9 := (Hd.inn (hdR p s b w12)).length
 let u10 := (zx (Option.some 32) Option.none (Hd.inn (hdR p s b w12)))
 let u11 := (zx Option.none (Option.some 48) (Hd.inn (hdR p s b w12)))
 let u12 := (List.drop (Min.min u3.length 32) hv.newest)
 let u13 := (Hd.mk (Shk.Sh.mk hv.first hv.turn hv.dead hv.sh hv.ck (symN hv.sh hv.n) hv.ch (Bla.sumS (hv.hs ++ [])) hv.own hv.fr hv.has ((List.take 32 (z4f hv.sh hv.ck hv.n [])) ++ (List.drop (Min.min (z4f hv.sh hv.ck hv.n []).length 32) hv.their)) true hv.newest hv.saw hv.psks hv.used) [] (Hd.inn (hdR p s b w12)) (Hd.e (hdR p s b w12)))
 let u14 := (zx (Option.some 48) Option.none (Hd.inn (hdR p s b w12)))
 let u15 := (List.getD x16 (Int.toNat (w12 : Int)) 0)
 let u16 := (Hd.mk u0 [] (Hd.inn (hdR p s b w12)) 5)
 let u17 := (x20 ++ (List.drop 0 hv.newest))
 let u18 : List AV := [.agg x21, .vec8 true [], .int .i64 (Hd.e (hdR p s b w12))]
 let u19 := (leB (List.length hv.ch) 64)
 let u20 := (List.getD hv.psks (Int.toNat hv.used) [])
 let u21 := (Hd.mk u0 [] (Hd.inn (hdR p s b w12)) 12)
 let u22 := (leB (List.length hv.hs) 200)
 let u23 : List AV := [.agg u1, .vec8 true [], .int .i64 0]
 let u24 := (Hd.mk u0 [] (Hd.inn (hdR p s b w12)) 4)
 let u25 := (Hd.mk u4 [] (Hd.inn (hdR p s b w12)) (Hd.e (hdR p s b w12)))
 let u26 := (cond (ltB u9 16) (4 : Int) 10)
 let u27 := (true && (z1d Option.none (Option.some 32) u9))
 let u28 := (true && (z1d (Option.some 32) Option.none u9))
 let u29 := (Bla.sumS (hv.hs ++ ((List.take 32 u3) ++ u12)))
 za (ltI (w12 : Int) x18)
 (cnd ((inB (w12 : Int) x17) && true)
 (za ((Hd.e (hdR p s b w12)) == 0)
 (za (u15 == 1)
 (za (ltI ((u9 : Nat) : Int) 32)
 (za ((Hd.e (hdR p s b w12)) == 0)
 (z19 p s fb b w12 u2 u24)
 (za ((Hd.e (hdR p s b w12)) != 0)
 (z19 p s fb b w12 u2 u5)
 (cnd (leB ((List.length hv.hs) + u17.length) 1000000)
 (za (ltI 0 (((List.length hv.psks) : Nat) : Int))
 (cnd (u19 && (leB u17.length 100000))
 (z19 p s fb b w12 u2 (Hd.mk (Shk.Sh.mk hv.first hv.turn hv.dead true (z29 hv.ch u17) 0 (z28 hv.ch u17) (Bla.sumS (hv.hs ++ u17)) hv.own hv.fr hv.has hv.their hv.knows u17 true hv.psks hv.used) [] (Hd.inn (hdR p s b w12)) (Hd.e (hdR p s b w12)))))
 (z19 p s fb b w12 u2 (Hd.mk (Shk.Sh.mk hv.first hv.turn hv.dead hv.sh hv.ck hv.n hv.ch (Bla.sumS (hv.hs ++ u17)) hv.own hv.fr hv.has hv.their hv.knows u17 true hv.psks hv.used) [] (Hd.inn (hdR p s b w12)) (Hd.e (hdR p s b w12))))))))
 (cnd u27
 (cnd u28
 (za ((Hd.e (hdR p s b w12)) != 0)
 (z19 p s fb b w12 u2 (Hd.mk u0 [] u10 (Hd.e (hdR p s b w12))))
 (cnd (leB ((List.length hv.hs) + ((List.take 32 u3) ++ u12).length) 1000000)
 (za (ltI 0 (((List.length hv.psks) : Nat) : Int))
 (cnd (u19 && (leB ((List.take 32 u3) ++ u12).length 100000))
 (z19 p s fb b w12 u2 (Hd.mk (Shk.Sh.mk hv.first hv.turn hv.dead true (z29 hv.ch ((List.take 32 u3) ++ u12)) 0 (z28 hv.ch ((List.take 32 u3) ++ u12)) u29 hv.own hv.fr hv.has hv.their hv.knows ((List.take 32 u3) ++ u12) true hv.psks hv.used) [] u10 (Hd.e (hdR p s b w12)))))
 (z19 p s fb b w12 u2 (Hd.mk (Shk.Sh.mk hv.first hv.turn hv.dead hv.sh hv.ck hv.n hv.ch u29 hv.own hv.fr hv.has hv.their hv.knows ((List.take 32 u3) ++ u12) true hv.psks hv.used) [] u10 (Hd.e (hdR p s b w12))))))))))
 (za (u15 == 2)
 (za hv.sh
 (za (ltI ((u9 : Nat) : Int) 48)
 (za ((Hd.e (hdR p s b w12)) == 0)
 (z19 p s fb b w12 u2 u24)
 (za ((Hd.e (hdR p s b w12)) != 0)
 (z19 p s fb b w12 u2 u5)
 (cnd (u22 && (true && (symK hv.sh hv.ck hv.n)))
 (za (z88 hv.sh hv.ck hv.n hv.hs [])
 (z19 p s fb b w12 u2 u13)
 (za ((Hd.e (hdR p s b w12)) == 0)
 (z19 p s fb b w12 u2 (Hd.mk u4 [] (Hd.inn (hdR p s b w12)) 4))
 (z19 p s fb b w12 u2 u25))))))
 (cnd (true && (z1d Option.none (Option.some 48) u9))
 (cnd (true && (z1d (Option.some 48) Option.none u9))
 (za ((Hd.e (hdR p s b w12)) != 0)
 (z19 p s fb b w12 u2 (Hd.mk u0 [] u14 (Hd.e (hdR p s b w12))))
 (cnd (u22 && ((leB u11.length 800) && (symK hv.sh hv.ck hv.n)))
 (za (z88 hv.sh hv.ck hv.n hv.hs u11)
 (z19 p s fb b w12 u2 (Hd.mk (Shk.Sh.mk hv.first hv.turn hv.dead hv.sh hv.ck (symN hv.sh hv.n) hv.ch (Bla.sumS (hv.hs ++ u11)) hv.own hv.fr hv.has ((List.take 32 (z4f hv.sh hv.ck hv.n u11)) ++ (List.drop (Min.min (z4f hv.sh hv.ck hv.n u11).length 32) hv.their)) true hv.newest hv.saw hv.psks hv.used) [] u14 (Hd.e (hdR p s b w12))))
 (za ((cond (ltB u11.length 16) (4 : Int) 10) != 0)
 (za ((Hd.e (hdR p s b w12)) == 0)
 (z19 p s fb b w12 u2 (Hd.mk u4 [] u14 (cond (ltB u11.length 16) (4 : Int) 10)))
 (z19 p s fb b w12 u2 (Hd.mk u4 [] u14 (Hd.e (hdR p s b w12)))))
 (z19 p s fb b w12 u2 (Hd.mk u8 [] u14 (Hd.e (hdR p s b w12)))))))))))
 (za (ltI ((u9 : Nat) : Int) 32)
 (za ((Hd.e (hdR p s b w12)) == 0)
 (z19 p s fb b w12 u2 u24)
 (za ((Hd.e (hdR p s b w12)) != 0)
 (z19 p s fb b w12 u2 u5)
 (cnd (u22 && (true && (symK hv.sh hv.ck hv.n)))
 (za (z88 hv.sh hv.ck hv.n hv.hs [])
 (z19 p s fb b w12 u2 u13)
 (za ((Hd.e (hdR p s b w12)) == 0)
 (z19 p s fb b w12 u2 (Hd.mk u4 [] (Hd.inn (hdR p s b w12)) 4))
 (z19 p s fb b w12 u2 u25))))))
 (cnd u27
 (cnd u28
 (za ((Hd.e (hdR p s b w12)) != 0)
 (z19 p s fb b w12 u2 (Hd.mk u0 [] u10 (Hd.e (hdR p s b w12))))
 (cnd (u22 && ((leB u3.length 800) && (symK hv.sh hv.ck hv.n)))
 (za (z88 hv.sh hv.ck hv.n hv.hs u3)
 (z19 p s fb b w12 u2 (Hd.mk (Shk.Sh.mk hv.first hv.turn hv.dead hv.sh hv.ck (symN hv.sh hv.n) hv.ch (Bla.sumS (hv.hs ++ u3)) hv.own hv.fr hv.has ((List.take 32 (z4f hv.sh hv.ck hv.n u3)) ++ (List.drop (Min.min (z4f hv.sh hv.ck hv.n u3).length 32) hv.their)) true hv.newest hv.saw hv.psks hv.used) [] u10 (Hd.e (hdR p s b w12))))
 (za ((cond (ltB u3.length 16) (4 : Int) 10) != 0)
 (za ((Hd.e (hdR p s b w12)) == 0)
 (z19 p s fb b w12 u2 (Hd.mk u4 [] u10 (cond (ltB u3.length 16) (4 : Int) 10)))
 (z19 p s fb b w12 u2 (Hd.mk u4 [] u10 (Hd.e (hdR p s b w12)))))
 (z19 p s fb b w12 u2 (Hd.mk u8 [] u10 (Hd.e (hdR p s b w12))))))))))))
 (za (u15 == 3)
 (za (Bool.not hv.has)
 (za ((Hd.e (hdR p s b w12)) == 0)
 (z19 p s fb b w12 u2 u16)
 (z19 p s fb b w12 u2 u5))
 (za (cond false true (Bool.not hv.saw))
 (za ((Hd.e (hdR p s b w12)) == 0)
 (z19 p s fb b w12 u2 u16)
 (z19 p s fb b w12 u2 u5))
 (za (Bool.not (z3j hv.fr hv.newest))
 (za ((Hd.e (hdR p s b w12)) == 0)
 (z19 p s fb b w12 u2 u21)
 (z19 p s fb b w12 u2 u5))
 (cnd (u19 && (leB (dhS hv.fr hv.newest).length 100000))
 (z19 p s fb b w12 u2 (Hd.mk (Shk.Sh.mk hv.first hv.turn hv.dead true (z29 hv.ch (dhS hv.fr hv.newest)) 0 (z28 hv.ch (dhS hv.fr hv.newest)) hv.hs hv.own hv.fr hv.has hv.their hv.knows hv.newest hv.saw hv.psks hv.used) [] (Hd.inn (hdR p s b w12)) (Hd.e (hdR p s b w12))))))))
 (za (u15 == 6)
 (za (cond false true (Bool.not hv.knows))
 (za ((Hd.e (hdR p s b w12)) == 0)
 (z19 p s fb b w12 u2 u16)
 (z19 p s fb b w12 u2 u5))
 (za (Bool.not (z3j hv.own hv.their))
 (za ((Hd.e (hdR p s b w12)) == 0)
 (z19 p s fb b w12 u2 u21)
 (z19 p s fb b w12 u2 u5))
 (cnd (u19 && (leB (dhS hv.own hv.their).length 100000))
 (z19 p s fb b w12 u2 (Hd.mk (Shk.Sh.mk hv.first hv.turn hv.dead true (z29 hv.ch (dhS hv.own hv.their)) 0 (z28 hv.ch (dhS hv.own hv.their)) hv.hs hv.own hv.fr hv.has hv.their hv.knows hv.newest hv.saw hv.psks hv.used) [] (Hd.inn (hdR p s b w12)) (Hd.e (hdR p s b w12)))))))
 (za (u15 == 7)
 (za (Bool.not (ltI hv.used (((List.length hv.psks) : Nat) : Int)))
 (za ((Hd.e (hdR p s b w12)) == 0)
 (z19 p s fb b w12 u2 u16)
 (z19 p s fb b w12 u2 u5))
 (cnd ((inB hv.used (List.length hv.psks)) && true)
 (cnd (u19 && ((leB u20.length 100000) && (leB (List.length hv.hs) 64)))
 (z19 p s fb b w12 u2 (Hd.mk (Shk.Sh.mk hv.first hv.turn hv.dead true (za5 hv.ch u20) 0 (z28 hv.ch u20) (Bla.sumS (hv.hs ++ (z29 hv.ch u20))) hv.own hv.fr hv.has hv.their hv.knows hv.newest hv.saw hv.psks (wr .i64 (hv.used + 1))) [] (Hd.inn (hdR p s b w12)) (Hd.e (hdR p s b w12)))))))
 (za ((u15 == 4) == hv.first)
 (za (Bool.not hv.has)
 (za ((Hd.e (hdR p s b w12)) == 0)
 (z19 p s fb b w12 u2 u16)
 (z19 p s fb b w12 u2 u5))
 (za (cond false true (Bool.not hv.knows))
 (za ((Hd.e (hdR p s b w12)) == 0)
 (z19 p s fb b w12 u2 u16)
 (z19 p s fb b w12 u2 u5))
 (za (Bool.not (z3j hv.fr hv.their))
 (za ((Hd.e (hdR p s b w12)) == 0)
 (z19 p s fb b w12 u2 u21)
 (z19 p s fb b w12 u2 u5))
 (cnd (u19 && (leB (dhS hv.fr hv.their).length 100000))
 (z19 p s fb b w12 u2 (Hd.mk (Shk.Sh.mk hv.first hv.turn hv.dead true (z29 hv.ch (dhS hv.fr hv.their)) 0 (z28 hv.ch (dhS hv.fr hv.their)) hv.hs hv.own hv.fr hv.has hv.their hv.knows hv.newest hv.saw hv.psks hv.used) [] (Hd.inn (hdR p s b w12)) (Hd.e (hdR p s b w12))))))))
 (za (cond false true (Bool.not hv.saw))
 (za ((Hd.e (hdR p s b w12)) == 0)
 (z19 p s fb b w12 u2 u16)
 (z19 p s fb b w12 u2 u5))
 (za (Bool.not (z3j hv.own hv.newest))
 (za ((Hd.e (hdR p s b w12)) == 0)
 (z19 p s fb b w12 u2 u21)
 (z19 p s fb b w12 u2 u5))
 (cnd (u19 && (leB (dhS hv.own hv.newest).length 100000))
 (z19 p s fb b w12 u2 (Hd.mk (Shk.Sh.mk hv.first hv.turn hv.dead true (z29 hv.ch (dhS hv.own hv.newest)) 0 (z28 hv.ch (dhS hv.own hv.newest)) hv.hs hv.own hv.fr hv.has hv.their hv.knows hv.newest hv.saw hv.psks hv.used) [] (Hd.inn (hdR p s b w12)) (Hd.e (hdR p s b w12)))))))))))))
 (z19 p s fb b w12 u2 u5)))
 (za ((Hd.e (hdR p s b w12)) == 0)
 (cnd (u22 && ((leB u9 800) && (symK hv.sh hv.ck hv.n)))
 (za (z88 hv.sh hv.ck hv.n hv.hs (Hd.inn (hdR p s b w12)))
 (za ((Hd.e (hdR p s b w12)) != 0)
 (cnd (Shk.isSh x21)
 (K (.tup u18) []))
 (cnd (Shk.isSh u7)
 (K (.tup [.agg u7, .vec8 false (z4f hv.sh hv.ck hv.n (Hd.inn (hdR p s b w12))), .int .i64 0]) [])))
 (za (u26 != 0)
 (za ((Hd.e (hdR p s b w12)) == 0)
 (za (u26 != 0)
 (cnd (Shk.isSh x21)
 (K (.tup [.agg x21, .vec8 true [], .int .i64 u26]) []))
 (cnd (Shk.isSh u1)
 (K (.tup u23) [])))
 (za ((Hd.e (hdR p s b w12)) != 0)
 (cnd (Shk.isSh x21)
 (K (.tup u18) []))
 (cnd (Shk.isSh u1)
 (K (.tup u23) []))))
 (za ((Hd.e (hdR p s b w12)) != 0)
 (cnd (Shk.isSh x21)
 (K (.tup u18) []))
 (cnd (Shk.isSh u6)
 (K (.tup [.agg u6, .vec8 true [], .int .i64 0]) []))))))
 (za ((Hd.e (hdR p s b w12)) != 0)
 (cnd (Shk.isSh x21)
 (K (.tup u18) []))
 (cnd (Shk.isSh u1)
 (K (.tup u23) []))))))))))))))) := by kernel_rfl
theorem z6v (p : Pat) (s : Sh) (fb : Bool) (sec b : List UInt8) (K : AV → Heap → Prop) : walk Tryz.E RSh KQ.C (z14o p s sec) 6 8 [shV p s, .b8 32 sec, .vec8 fb b] K = (
 let x0 : Bool := Shk.Sh.dead s
 let x1 : Bool := (Pat.Pat.late p)
 let x2 : List Int := (Pat.Pat.psks p)
 let x3 : Nat := x2.length
 let x4 : List Int := (Pat.Pat.pre0 p)
 let x5 : Nat := x4.length
 let x6 : List Int := (Pat.Pat.pre1 p)
 let x7 : Nat := x6.length
 let x8 : List (List Int) := (Pat.Pat.turns p)
 let x9 : Nat := x8.length
 let x10 : Bool := (Shk.Sh.first s)
 let x11 : Int := (Shk.Sh.turn s)
 let x12 : List (List UInt8) := (Shk.Sh.psks s)
 let x13 : Nat := x12.length
 let x14 : Int := (Shk.Sh.used s)
 let x15 : List AV := [.str (Pat.Pat.base p), .bool x1, .vecr false 1 x3 (Pat.intF x2), .vecr false 1 x5 (Pat.intF x4), .vecr false 1 x7 (Pat.intF x6), .vecr false 1 x9 (Pat.trF x8), .bool x10, .int .i64 x11, .bool x0, .bool (Shk.Sh.sh s), .b8 32 (Shk.Sh.ck s), .u64 (Shk.Sh.n s), .b8 32 (Shk.Sh.ch s), .b8 32 (Shk.Sh.hs s), .b8 32 (Shk.Sh.own s), .b8 32 (Shk.Sh.fr s), .bool (Shk.Sh.has s), .b8 32 (Shk.Sh.their s), .bool (Shk.Sh.knows s), .b8 32 (Shk.Sh.newest s), .bool (Shk.Sh.saw s), .vecr false 32 x13 (Shk.keyF x12), .int .i64 x14]
 let x16 : Nat := b.length
 let x17 : List Int := (List.getD x8 (Int.toNat x11) [])
 let x18 : Nat := x17.length
 let x19 : Int := (x18 : Int)
 let x20 : Bool := fb || (Bool.not fb)
 let x21 : Nat := (zy sec).length
 let x22 : Nat := 140737488355328
 let x23 : List AV := [.str (Pat.Pat.base p), .bool x1, .vecr false 1 x3 (Pat.intF x2), .vecr false 1 x5 (Pat.intF x4), .vecr false 1 x7 (Pat.intF x6), .vecr false 1 x9 (Pat.trF x8), .bool x10, .int .i64 x11, .bool true, .bool (Shk.Sh.sh s), .b8 32 (Shk.Sh.ck s), .u64 (Shk.Sh.n s), .b8 32 (Shk.Sh.ch s), .b8 32 (Shk.Sh.hs s), .b8 32 (Shk.Sh.own s), .b8 32 (Shk.Sh.fr s), .bool (Shk.Sh.has s), .b8 32 (Shk.Sh.their s), .bool (Shk.Sh.knows s), .b8 32 (Shk.Sh.newest s), .bool (Shk.Sh.saw s), .vecr false 32 x13 (Shk.keyF x12), .int .i64 x14]
 za (x0)
 (cnd (Shk.isSh x15)
 (K (.tup [.agg x15, .vec8 true [], .int .i64 9]) []))
 (za (cond false true (ltI x11 0))
 (cnd (Shk.isSh x15)
 (K (.tup [.agg x15, .vec8 true [], .int .i64 9]) []))
 (za (cond false true (Bool.not (ltI x11 (x9 : Int))))
 (cnd (Shk.isSh x15)
 (K (.tup [.agg x15, .vec8 true [], .int .i64 9]) []))
 (za (cond false true ((((Int.tmod x11 2) == 0) == (x10 != x1)) != true))
 (cnd (Shk.isSh x15)
 (K (.tup [.agg x15, .vec8 true [], .int .i64 9]) []))
 (cnd (Shk.isP [.str (Pat.Pat.base p), .bool x1, .vecr false 1 x3 (Pat.intF x2), .vecr false 1 x5 (Pat.intF x4), .vecr false 1 x7 (Pat.intF x6), .vecr false 1 x9 (Pat.trF x8)])
 (za (cond false true (ltI x14 0))
 (cnd (Shk.isSh x15)
 (K (.tup [.agg x15, .vec8 true [], .int .i64 9]) []))
 (za (ltI 400 (x16 : Int))
 (cnd (Shk.isSh x15)
 (K (.tup [.agg x15, .vec8 true [], .int .i64 1]) []))
 (cnd ((inB x11 x9) && true)
 ((∃ w0 : Nat, (Inv.upTo [.int .i64 x19] w0) ∧ cnd (x20)
 ((b = b) ∧ ((([] : List UInt8) = []) ∧ ((AV.int .i64 0 = .int .i64 0) ∧ ((x18 = x18) ∧ ((∀ w1 : Nat, (w1 < x18 → leR [.int .i64 (List.getD x17 w1 0)] [.int .i64 (List.getD x17 w1 0)])) ∧ ((AV.int .i64 x19 = .int .i64 x19) ∧ ((AV.int .i64 0 = .int .i64 (w0 : Int)) ∧ ((AV.str (Pat.Pat.base p) = .str (Pat.Pat.base p)) ∧ ((AV.bool x1 = .bool x1) ∧ ((x3 = x3) ∧ ((∀ w2 : Nat, (w2 < x3 → leR [.int .i64 (List.getD x2 w2 0)] [.int .i64 (List.getD x2 w2 0)])) ∧ ((x5 = x5) ∧ ((∀ w3 : Nat, (w3 < x5 → leR [.int .i64 (List.getD x4 w3 0)] [.int .i64 (List.getD x4 w3 0)])) ∧ ((x7 = x7) ∧ ((∀ w4 : Nat, (w4 < x7 → leR [.int .i64 (List.getD x6 w4 0)] [.int .i64 (List.getD x6 w4 0)])) ∧ ((x9 = x9) ∧ ((∀ w5 : Nat, (w5 < x9 → leR [.vecr false 1 (List.getD x8 w5 []).length (Pat.intF (List.getD x8 w5 []))] [.vecr false 1 (List.getD x8 w5 []).length (Pat.intF (List.getD x8 w5 []))])) ∧ ((AV.bool x10 = .bool x10) ∧ ((AV.int .i64 x11 = .int .i64 x11) ∧ ((AV.bool x0 = .bool x0) ∧ ((AV.bool (Shk.Sh.sh s) = .bool (Shk.Sh.sh s)) ∧ ((AV.b8 32 (Shk.Sh.ck s) = .b8 32 (Shk.Sh.ck s)) ∧ ((AV.u64 (Shk.Sh.n s) = .u64 (Shk.Sh.n s)) ∧ ((AV.b8 32 (Shk.Sh.ch s) = .b8 32 (Shk.Sh.ch s)) ∧ ((AV.b8 32 (Shk.Sh.hs s) = .b8 32 (Shk.Sh.hs s)) ∧ ((AV.b8 32 (Shk.Sh.own s) = .b8 32 (Shk.Sh.own s)) ∧ ((AV.b8 32 (Shk.Sh.fr s) = .b8 32 (Shk.Sh.fr s)) ∧ ((AV.bool (Shk.Sh.has s) = .bool (Shk.Sh.has s)) ∧ ((AV.b8 32 (Shk.Sh.their s) = .b8 32 (Shk.Sh.their s)) ∧ ((AV.bool (Shk.Sh.knows s) = .bool (Shk.Sh.knows s)) ∧ ((AV.b8 32 (Shk.Sh.newest s) = .b8 32 (Shk.Sh.newest s)) ∧ ((AV.bool (Shk.Sh.saw s) = .bool (Shk.Sh.saw s)) ∧ ((x13 = x13) ∧ ((∀ w6 : Nat, (w6 < x13 → leR [.b8 32 (List.getD x12 w6 [])] [.b8 32 (List.getD x12 w6 [])])) ∧ ((AV.int .i64 x14 = .int .i64 x14) ∧ ((AV.b8 32 sec = .b8 32 sec) ∧ ((AV.str [] = .str []) ∧ ((AV.bool false = .bool false) ∧ ((AV.vec true 1 [] = .vec true 1 []) ∧ ((AV.vec true 1 [] = .vec true 1 []) ∧ ((AV.vec true 1 [] = .vec true 1 []) ∧ ((AV.vec true 1 [] = .vec true 1 []) ∧ ((AV.bool false = .bool false) ∧ ((AV.int .i64 0 = .int .i64 0) ∧ ((AV.bool false = .bool false) ∧ ((AV.bool false = .bool false) ∧ ((AV.b8 32 [0, 0, 0, 0, 0, 0, 0, 0, 0, 0, 0, 0, 0, 0, 0, 0, 0, 0, 0, 0, 0, 0, 0, 0, 0, 0, 0, 0, 0, 0, 0, 0] = .b8 32 [0, 0, 0, 0, 0, 0, 0, 0, 0, 0, 0, 0, 0, 0, 0, 0, 0, 0, 0, 0, 0, 0, 0, 0, 0, 0, 0, 0, 0, 0, 0, 0]) ∧ ((AV.u64 0 = .u64 0) ∧ ((AV.b8 32 [0, 0, 0, 0, 0, 0, 0, 0, 0, 0, 0, 0, 0, 0, 0, 0, 0, 0, 0, 0, 0, 0, 0, 0, 0, 0, 0, 0, 0, 0, 0, 0] = .b8 32 [0, 0, 0, 0, 0, 0, 0, 0, 0, 0, 0, 0, 0, 0, 0, 0, 0, 0, 0, 0, 0, 0, 0, 0, 0, 0, 0, 0, 0, 0, 0, 0]) ∧ ((AV.b8 32 [0, 0, 0, 0, 0, 0, 0, 0, 0, 0, 0, 0, 0, 0, 0, 0, 0, 0, 0, 0, 0, 0, 0, 0, 0, 0, 0, 0, 0, 0, 0, 0] = .b8 32 [0, 0, 0, 0, 0, 0, 0, 0, 0, 0, 0, 0, 0, 0, 0, 0, 0, 0, 0, 0, 0, 0, 0, 0, 0, 0, 0, 0, 0, 0, 0, 0]) ∧ ((AV.b8 32 [0, 0, 0, 0, 0, 0, 0, 0, 0, 0, 0, 0, 0, 0, 0, 0, 0, 0, 0, 0, 0, 0, 0, 0, 0, 0, 0, 0, 0, 0, 0, 0] = .b8 32 [0, 0, 0, 0, 0, 0, 0, 0, 0, 0, 0, 0, 0, 0, 0, 0, 0, 0, 0, 0, 0, 0, 0, 0, 0, 0, 0, 0, 0, 0, 0, 0]) ∧ ((AV.b8 32 [0, 0, 0, 0, 0, 0, 0, 0, 0, 0, 0, 0, 0, 0, 0, 0, 0, 0, 0, 0, 0, 0, 0, 0, 0, 0, 0, 0, 0, 0, 0, 0] = .b8 32 [0, 0, 0, 0, 0, 0, 0, 0, 0, 0, 0, 0, 0, 0, 0, 0, 0, 0, 0, 0, 0, 0, 0, 0, 0, 0, 0, 0, 0, 0, 0, 0]) ∧ ((AV.bool false = .bool false) ∧ ((AV.b8 32 [0, 0, 0, 0, 0, 0, 0, 0, 0, 0, 0, 0, 0, 0, 0, 0, 0, 0, 0, 0, 0, 0, 0, 0, 0, 0, 0, 0, 0, 0, 0, 0] = .b8 32 [0, 0, 0, 0, 0, 0, 0, 0, 0, 0, 0, 0, 0, 0, 0, 0, 0, 0, 0, 0, 0, 0, 0, 0, 0, 0, 0, 0, 0, 0, 0, 0]) ∧ ((AV.bool false = .bool false) ∧ ((AV.b8 32 [0, 0, 0, 0, 0, 0, 0, 0, 0, 0, 0, 0, 0, 0, 0, 0, 0, 0, 0, 0, 0, 0, 0, 0, 0, 0, 0, 0, 0, 0, 0, 0] = .b8 32 [0, 0, 0, 0, 0, 0, 0, 0, 0, 0, 0, 0, 0, 0, 0, 0, 0, 0, 0, 0, 0, 0, 0, 0, 0, 0, 0, 0, 0, 0, 0, 0]) ∧ ((AV.bool false = .bool false) ∧ ((AV.vec true 32 [] = .vec true 32 []) ∧ ((AV.int .i64 0 = .int .i64 0) ∧ ((AV.str (Pat.Pat.base p) = .str (Pat.Pat.base p)) ∧ ((AV.bool x1 = .bool x1) ∧ ((x3 = x3) ∧ ((∀ w7 : Nat, (w7 < x3 → leR [.int .i64 (List.getD x2 w7 0)] [.int .i64 (List.getD x2 w7 0)])) ∧ ((x5 = x5) ∧ ((∀ w8 : Nat, (w8 < x5 → leR [.int .i64 (List.getD x4 w8 0)] [.int .i64 (List.getD x4 w8 0)])) ∧ ((x7 = x7) ∧ ((∀ w9 : Nat, (w9 < x7 → leR [.int .i64 (List.getD x6 w9 0)] [.int .i64 (List.getD x6 w9 0)])) ∧ ((x9 = x9) ∧ ((∀ w10 : Nat, (w10 < x9 → leR [.vecr false 1 (List.getD x8 w10 []).length (Pat.intF (List.getD x8 w10 []))] [.vecr false 1 (List.getD x8 w10 []).length (Pat.intF (List.getD x8 w10 []))])) ∧ ((AV.bool x10 = .bool (Shk.Sh.first (Hd.s (hdW p s sec w0)))) ∧ ((AV.int .i64 x11 = .int .i64 (Shk.Sh.turn (Hd.s (hdW p s sec w0)))) ∧ ((AV.bool x0 = .bool (Shk.Sh.dead (Hd.s (hdW p s sec w0)))) ∧ ((AV.bool (Shk.Sh.sh s) = .bool (Shk.Sh.sh (Hd.s (hdW p s sec w0)))) ∧ ((AV.b8 32 (Shk.Sh.ck s) = .b8 32 (Shk.Sh.ck (Hd.s (hdW p s sec w0)))) ∧ ((AV.u64 (Shk.Sh.n s) = .u64 (Shk.Sh.n (Hd.s (hdW p s sec w0)))) ∧ ((AV.b8 32 (Shk.Sh.ch s) = .b8 32 (Shk.Sh.ch (Hd.s (hdW p s sec w0)))) ∧ ((AV.b8 32 (Shk.Sh.hs s) = .b8 32 (Shk.Sh.hs (Hd.s (hdW p s sec w0)))) ∧ ((AV.b8 32 (Shk.Sh.own s) = .b8 32 (Shk.Sh.own (Hd.s (hdW p s sec w0)))) ∧ ((AV.b8 32 (Shk.Sh.fr s) = .b8 32 (Shk.Sh.fr (Hd.s (hdW p s sec w0)))) ∧ ((AV.bool (Shk.Sh.has s) = .bool (Shk.Sh.has (Hd.s (hdW p s sec w0)))) ∧ ((AV.b8 32 (Shk.Sh.their s) = .b8 32 (Shk.Sh.their (Hd.s (hdW p s sec w0)))) ∧ ((AV.bool (Shk.Sh.knows s) = .bool (Shk.Sh.knows (Hd.s (hdW p s sec w0)))) ∧ ((AV.b8 32 (Shk.Sh.newest s) = .b8 32 (Shk.Sh.newest (Hd.s (hdW p s sec w0)))) ∧ ((AV.bool (Shk.Sh.saw s) = .bool (Shk.Sh.saw (Hd.s (hdW p s sec w0)))) ∧ ((x13 = List.length (Shk.Sh.psks (Hd.s (hdW p s sec w0)))) ∧ ((∀ w11 : Nat, (w11 < (Shk.Sh.psks (Hd.s (hdW p s sec w0))).length → leR [.b8 32 (List.getD x12 w11 [])] [.b8 32 (List.getD (Shk.Sh.psks (Hd.s (hdW p s sec w0))) w11 [])])) ∧ ((AV.int .i64 x14 = .int .i64 (Shk.Sh.used (Hd.s (hdW p s sec w0)))) ∧ ((0 = List.length (Hd.out (hdW p s sec w0))) ∧ ((([] : List UInt8) = []) ∧ ((AV.int .i64 0 = .int .i64 (Hd.e (hdW p s sec w0))) ∧ cnd (zj8 (Ent.grow8 (Hd.out (hdW p s sec w0)) []))
 (True)))))))))))))))))))))))))))))))))))))))))))))))))))))))))))))))))))))))))))))))))))))))))))) ∧ (∀ w12 : Nat, (Inv.upTo [.int .i64 x19] w12 → let hv : Shk.Sh := (Hd.s (hdW p s sec w12))
 let u0 := (Shk.Sh.mk hv.first hv.turn hv.dead hv.sh hv.ck hv.n hv.ch hv.hs hv.own hv.fr hv.has hv.their hv.knows hv.newest hv.saw hv.psks hv.used)
 let u1 := (Hd.out (hdW p s sec w12))
 let u2 := (wr .i64 ((w12 : Int) + 1))
 let u3 : List AV := [.str (Pat.Pat.base p), .bool x1, .vecr false 1 x3 (Pat.intF x2), .vecr false 1 x5 (Pat.intF x4), .vecr false 1 x7 (Pat.intF x6), .vecr false 1 x9 (Pat.trF x8), .bool hv.first, .int .i64 (wr .i64 (hv.turn + 1)), .bool hv.dead, .bool hv.sh, .b8 32 hv.ck, .u64 (symN hv.sh hv.n), .b8 32 hv.ch, .b8 32 (Bla.sumS (hv.hs ++ (z2c hv.sh hv.ck hv.n hv.hs b))), .b8 32 hv.own, .b8 32 hv.fr, .bool hv.has, .b8 32 hv.their, .bool hv.knows, .b8 32 hv.newest, .bool hv.saw, .vecr false 32 (List.length hv.psks) (Shk.keyF hv.psks), .int .i64 hv.used]
 let u4 : List AV := [.str (Pat.Pat.base p), .bool x1, .vecr false 1 x3 (Pat.intF x2), .vecr false 1 x5 (Pat.intF x4), .vecr false 1 x7 (Pat.intF x6), .vecr false 1 x9 (Pat.trF x8), .bool hv.first, .int .i64 (wr .i64 (hv.turn + 1)), .bool hv.dead, .bool hv.sh, .b8 32 hv.ck, .u64 hv.n, .b8 32 hv.ch, .b8 32 hv.hs, .b8 32 hv.own, .b8 32 hv.fr, .bool hv.has, .b8 32 hv.their, .bool hv.knows, .b8 32 hv.newest, .bool hv.saw, .vecr false 32 (List.length hv.psks) (Shk.keyF hv.psks), .int .i64 hv.used]
 let u5 := (Hd.mk u0 u1 [] (Hd.e (hdW p s sec w12)))
 let u6 := (z2c hv.sh hv.ck hv.n hv.hs (zy hv.own))
 let u7 := (List.getD x17 (Int.toNat (w12 : Int)) 0)
 let u8 := (List.take (z2c hv.sh hv.ck hv.n hv.hs b).length (List.drop 0 (z2c hv.sh hv.ck hv.n hv.hs b)))
 let u9 := (leB (List.length hv.ch) 64)
 let u10 := (List.getD hv.psks (Int.toNat hv.used) [])
 let u11 := (List.take u6.length (List.drop 0 u6))
 let u12 : List AV := [.agg x23, .vec8 true [], .int .i64 (Hd.e (hdW p s sec w12))]
 za (ltI (w12 : Int) x19)
 (cnd ((inB (w12 : Int) x18) && true)
 (za ((Hd.e (hdW p s sec w12)) == 0)
 (za (u7 == 1)
 (cnd (u1.length == u1.length)
 (cnd (leB ((u1.length + x21) * 1) x22)
 (cnd (leB ((List.length hv.hs) + x21) 1000000)
 (za (ltI 0 (((List.length hv.psks) : Nat) : Int))
 (cnd (u9 && (leB x21 100000))
 (z1x p s fb sec b w12 u2 (u1.length + x21) (Hd.mk (Shk.Sh.mk hv.first hv.turn hv.dead true (z29 hv.ch (zy sec)) 0 (z28 hv.ch (zy sec)) (Bla.sumS (hv.hs ++ (zy sec))) hv.own sec true hv.their hv.knows hv.newest hv.saw hv.psks hv.used) (u1 ++ (zy sec)) [] (Hd.e (hdW p s sec w12)))))
 (z1x p s fb sec b w12 u2 (u1.length + x21) (Hd.mk (Shk.Sh.mk hv.first hv.turn hv.dead hv.sh hv.ck hv.n hv.ch (Bla.sumS (hv.hs ++ (zy sec))) hv.own sec true hv.their hv.knows hv.newest hv.saw hv.psks hv.used) (u1 ++ (zy sec)) [] (Hd.e (hdW p s sec w12))))))))
 (za (u7 == 2)
 (cnd ((leB (List.length hv.hs) 200) && ((leB (zy hv.own).length 800) && (symK hv.sh hv.ck hv.n)))
 (cnd (true && (leB (0 + u6.length) u6.length))
 (cnd (u1.length == u1.length)
 (cnd (leB ((u1.length + u11.length) * 1) x22)
 (z1x p s fb sec b w12 u2 (u1.length + u11.length) (Hd.mk (Shk.Sh.mk hv.first hv.turn hv.dead hv.sh hv.ck (symN hv.sh hv.n) hv.ch (Bla.sumS (hv.hs ++ u6)) hv.own hv.fr hv.has hv.their hv.knows hv.newest hv.saw hv.psks hv.used) (u1 ++ u11) [] (Hd.e (hdW p s sec w12))))))))
 (za (u7 == 3)
 (za (Bool.not hv.has)
 (za ((Hd.e (hdW p s sec w12)) == 0)
 (z1x p s fb sec b w12 u2 u1.length (Hd.mk u0 u1 [] 5))
 (z1x p s fb sec b w12 u2 u1.length u5))
 (za (cond false true (Bool.not hv.saw))
 (za ((Hd.e (hdW p s sec w12)) == 0)
 (z1x p s fb sec b w12 u2 u1.length (Hd.mk u0 u1 [] 5))
 (z1x p s fb sec b w12 u2 u1.length u5))
 (za (Bool.not (z3j hv.fr hv.newest))
 (za ((Hd.e (hdW p s sec w12)) == 0)
 (z1x p s fb sec b w12 u2 u1.length (Hd.mk u0 u1 [] 12))
 (z1x p s fb sec b w12 u2 u1.length u5))
 (cnd (u9 && (leB (dhS hv.fr hv.newest).length 100000))
 (z1x p s fb sec b w12 u2 u1.length (Hd.mk (Shk.Sh.mk hv.first hv.turn hv.dead true (z29 hv.ch (dhS hv.fr hv.newest)) 0 (z28 hv.ch (dhS hv.fr hv.newest)) hv.hs hv.own hv.fr hv.has hv.their hv.knows hv.newest hv.saw hv.psks hv.used) u1 [] (Hd.e (hdW p s sec w12))))))))
 (za (u7 == 6)
 (za (cond false true (Bool.not hv.knows))
 (za ((Hd.e (hdW p s sec w12)) == 0)
 (z1x p s fb sec b w12 u2 u1.length (Hd.mk u0 u1 [] 5))
 (z1x p s fb sec b w12 u2 u1.length u5))
 (za (Bool.not (z3j hv.own hv.their))
 (za ((Hd.e (hdW p s sec w12)) == 0)
 (z1x p s fb sec b w12 u2 u1.length (Hd.mk u0 u1 [] 12))
 (z1x p s fb sec b w12 u2 u1.length u5))
 (cnd (u9 && (leB (dhS hv.own hv.their).length 100000))
 (z1x p s fb sec b w12 u2 u1.length (Hd.mk (Shk.Sh.mk hv.first hv.turn hv.dead true (z29 hv.ch (dhS hv.own hv.their)) 0 (z28 hv.ch (dhS hv.own hv.their)) hv.hs hv.own hv.fr hv.has hv.their hv.knows hv.newest hv.saw hv.psks hv.used) u1 [] (Hd.e (hdW p s sec w12)))))))
 (za (u7 == 7)
 (za (Bool.not (ltI hv.used (((List.length hv.psks) : Nat) : Int)))
 (za ((Hd.e (hdW p s sec w12)) == 0)
 (z1x p s fb sec b w12 u2 u1.length (Hd.mk u0 u1 [] 5))
 (z1x p s fb sec b w12 u2 u1.length u5))
 (cnd ((inB hv.used (List.length hv.psks)) && true)
 (cnd (u9 && ((leB u10.length 100000) && (leB (List.length hv.hs) 64)))
 (z1x p s fb sec b w12 u2 u1.length (Hd.mk (Shk.Sh.mk hv.first hv.turn hv.dead true (za5 hv.ch u10) 0 (z28 hv.ch u10) (Bla.sumS (hv.hs ++ (z29 hv.ch u10))) hv.own hv.fr hv.has hv.their hv.knows hv.newest hv.saw hv.psks (wr .i64 (hv.used + 1))) u1 [] (Hd.e (hdW p s sec w12)))))))
 (za ((u7 == 4) == hv.first)
 (za (Bool.not hv.has)
 (za ((Hd.e (hdW p s sec w12)) == 0)
 (z1x p s fb sec b w12 u2 u1.length (Hd.mk u0 u1 [] 5))
 (z1x p s fb sec b w12 u2 u1.length u5))
 (za (cond false true (Bool.not hv.knows))
 (za ((Hd.e (hdW p s sec w12)) == 0)
 (z1x p s fb sec b w12 u2 u1.length (Hd.mk u0 u1 [] 5))
 (z1x p s fb sec b w12 u2 u1.length u5))
 (za (Bool.not (z3j hv.fr hv.their))
 (za ((Hd.e (hdW p s sec w12)) == 0)
 (z1x p s fb sec b w12 u2 u1.length (Hd.mk u0 u1 [] 12))
 (z1x p s fb sec b w12 u2 u1.length u5))
 (cnd (u9 && (leB (dhS hv.fr hv.their).length 100000))
 (z1x p s fb sec b w12 u2 u1.length (Hd.mk (Shk.Sh.mk hv.first hv.turn hv.dead true (z29 hv.ch (dhS hv.fr hv.their)) 0 (z28 hv.ch (dhS hv.fr hv.their)) hv.hs hv.own hv.fr hv.has hv.their hv.knows hv.newest hv.saw hv.psks hv.used) u1 [] (Hd.e (hdW p s sec w12))))))))
 (za (cond false true (Bool.not hv.saw))
 (za ((Hd.e (hdW p s sec w12)) == 0)
 (z1x p s fb sec b w12 u2 u1.length (Hd.mk u0 u1 [] 5))
 (z1x p s fb sec b w12 u2 u1.length u5))
 (za (Bool.not (z3j hv.own hv.newest))
 (za ((Hd.e (hdW p s sec w12)) == 0)
 (z1x p s fb sec b w12 u2 u1.length (Hd.mk u0 u1 [] 12))
 (z1x p s fb sec b w12 u2 u1.length u5))
 (cnd (u9 && (leB (dhS hv.own hv.newest).length 100000))
 (z1x p s fb sec b w12 u2 u1.length (Hd.mk (Shk.Sh.mk hv.first hv.turn hv.dead true (z29 hv.ch (dhS hv.own hv.newest)) 0 (z28 hv.ch (dhS hv.own hv.newest)) hv.hs hv.own hv.fr hv.has hv.their hv.knows hv.newest hv.saw hv.psks hv.used) u1 [] (Hd.e (hdW p s sec w12)))))))))))))
 (z1x p s fb sec b w12 u2 u1.length u5)))
 (za ((Hd.e (hdW p s sec w12)) == 0)
 (cnd ((leB (List.length hv.hs) 200) && ((leB x16 800) && (symK hv.sh hv.ck hv.n)))
 (cnd (true && (leB (0 + (z2c hv.sh hv.ck hv.n hv.hs b).length) (z2c hv.sh hv.ck hv.n hv.hs b).length))
 (cnd (u1.length == u1.length)
 (cnd (leB ((u1.length + u8.length) * 1) x22)
 (za ((Hd.e (hdW p s sec w12)) != 0)
 (cnd (Shk.isSh x23)
 (K (.tup u12) []))
 (cnd (Shk.isSh u3)
 (K (.tup [.agg u3, .sl 0 0 1 (u1.length + u8.length), .int .i64 0]) [Ent.grow8 (u1 ++ u8) []])))))))
 (za ((Hd.e (hdW p s sec w12)) != 0)
 (cnd (Shk.isSh x23)
 (K (.tup u12) []))
 (cnd (Shk.isSh u4)
 (K (.tup [.agg u4, .sl 0 0 1 u1.length, .int .i64 0]) [Ent.grow8 u1 []]))))))))))))))) := by kernel_rfl
structure OkS (m : Nat) (s : Sh) : Prop where
 ck : s.ck.length = 32
 ch : s.ch.length = 32
 hs : s.hs.length = 32
 own : s.own.length = 32
 fr : s.fr.length = 32
 their : s.their.length = 32
 newest : s.newest.length = 32
 sy : (s.sh = true ∧ s.n.toNat ≤ m) ∨ (s.sh = false ∧ s.ck = zk ∧ s.n = 0)
 ps : z10b s.psks
 us : 0 ≤ s.used
structure SameS (a b : Sh) : Prop where
 first : a.first = b.first
 turn : a.turn = b.turn
 dead : a.dead = b.dead
 own : a.own = b.own
 psks : a.psks = b.psks
theorem SameS.refl (a : Sh) : SameS a a := ⟨rfl, rfl, rfl, rfl, rfl⟩
theorem SameS.trans {a b c : Sh} (h : SameS a b) (g : SameS b c) : SameS a c := ⟨h.1.trans g.1, h.2.trans g.2, h.3.trans g.3, h.4.trans g.4, h.5.trans g.5⟩
theorem OkS.up {m k : Nat} {s : Sh} (h : OkS m s) (hk : m ≤ k) : OkS k s := ⟨h.ck, h.ch, h.hs, h.own, h.fr, h.their, h.newest, h.sy.imp (fun x => ⟨x.1, by omega⟩) id, h.ps, h.us⟩
theorem z10t {m : UInt64} (h : m.toNat < 2000) : z9d m = false := by
 unfold z9d;rw [beq_eq_false_iff_ne]; omega
theorem OkS.symK {m : Nat} {s : Sh} (h : OkS m s) (hm : m < 1900) : symK s.sh s.ck s.n = true := by
 rw [zk8];unfold zc1;rcases h.sy with ⟨h1, h2⟩ | ⟨h1, h2, h3⟩
 ·rw [h1, cond_true, z10t (by omega)]; rfl
 ·rw [h1, cond_false, h2, h3, zy5]; rfl
theorem OkS.symN {m : Nat} {s : Sh} (h : OkS m s) (hm : m < 1900) : (s.sh = true ∧ (symN s.sh s.n).toNat ≤ m + 1) ∨ (s.sh = false ∧ s.ck = zk ∧ symN s.sh s.n = 0) := by
 rw [zq0];unfold zst;rcases h.sy with ⟨h1, h2⟩ | ⟨h1, h2, h3⟩
 ·refine .inl ⟨h1, ?_⟩;rw [h1, cond_true, UInt64.toNat_add];have : (1 : UInt64).toNat = 1 := rfl;omega
 ·exact .inr ⟨h1, h2, by rw [h1, cond_false, h3]⟩
theorem zy7 {m : Nat} {h : Hd} (g : OkS m h.s) (k : List UInt8) : OkS m (z87 h k).s :=
 ⟨zl8 _ _, zkw _ _, g.hs, g.own, g.fr, g.their, g.newest, .inl ⟨rfl, Nat.zero_le _⟩, g.ps, g.us⟩
theorem zto {m : Nat} {h : Hd} (g : OkS m h.s) (k : List UInt8) : OkS m (zbt h k).s :=
 ⟨g.ck, g.ch, z1g _, g.own, g.fr, g.their, g.newest, g.sy, g.ps, g.us⟩
theorem z1cw {m : Nat} {h : Hd} (g : OkS m h.s) : OkS m (ziy h).s :=
 ⟨zxh _ _, zkw _ _, z1g _, g.own, g.fr, g.their, g.newest, .inl ⟨rfl, Nat.zero_le _⟩, g.ps, by have := g.us; show 0 ≤ h.s.used + 1; omega⟩
theorem zof {m : Nat} {h : Hd} (g : OkS m h.s) (a b : Bool) (x y : List UInt8) : OkS m (dhH a b x y h).s := by
 unfold dhH;cases !a || !b with
 | true => exact g
 | false =>
  cases !z3j x y with
  | true => exact g
  | false => exact zy7 g _
theorem znf {m : Nat} {h : Hd} (g : OkS m h.s) (t : Int) : OkS m (z1y t h).s := by
 unfold z1y;cases t == 3 with
 | true => exact zof g _ _ _ _
 | false =>
 cases t == 6 with
 | true => exact zof g _ _ _ _
 | false =>
 cases t == 7 with
 | true =>
  show OkS m (bif _ then _ else _ : Hd).s;cases decide ((h.s.psks.length : Int) ≤ h.s.used) with
  | true => exact g
  | false => exact z1cw g
 | false =>
 cases (t == 4) == h.s.first with
 | true => exact zof g _ _ _ _
 | false => exact zof g _ _ _ _
theorem zwo {m : Nat} {h : Hd} (g : OkS m h.s) (k : List UInt8) : OkS m (z4y k h).s := by
 unfold z4y;cases decide (0 < h.s.psks.length) with
 | true => exact zy7 (zto g k) k
 | false => exact zto g k
theorem zty {m : Nat} {h : Hd} (g : OkS m h.s) (hm : m < 1900) (b : List UInt8) : OkS (m + 1) (zc0 b h).s :=
 ⟨g.ck, g.ch, z1g _, g.own, g.fr, g.their, g.newest, g.symN hm, g.ps, g.us⟩
theorem zk0 (a b : Bool) (x y : List UInt8) (h : Hd) : SameS (dhH a b x y h).s h.s := by
 unfold dhH;cases !a || !b with
 | true => exact SameS.refl _
 | false =>
  cases !z3j x y with
  | true => exact SameS.refl _
  | false => exact ⟨rfl, rfl, rfl, rfl, rfl⟩
theorem zlc (t : Int) (h : Hd) : SameS (z1y t h).s h.s := by
 unfold z1y;cases t == 3 with
 | true => exact zk0 _ _ _ _ _
 | false =>
 cases t == 6 with
 | true => exact zk0 _ _ _ _ _
 | false =>
 cases t == 7 with
 | true =>
  show SameS (bif _ then _ else _ : Hd).s _;cases decide ((h.s.psks.length : Int) ≤ h.s.used) with
  | true => exact SameS.refl _
  | false => exact ⟨rfl, rfl, rfl, rfl, rfl⟩
 | false =>
 cases (t == 4) == h.s.first with
 | true => exact zk0 _ _ _ _ _
 | false => exact zk0 _ _ _ _ _
theorem zrk (k : List UInt8) (h : Hd) : SameS (z4y k h).s h.s := by
 unfold z4y;cases decide (0 < h.s.psks.length) <;> exact ⟨rfl, rfl, rfl, rfl, rfl⟩
theorem zc8 (t : Int) (h : Hd) : (z1y t h).inn = h.inn ∧ (z1y t h).out = h.out := by
 have dh : ∀ a b x y, (dhH a b x y h).inn = h.inn ∧ (dhH a b x y h).out = h.out := by
  intro a b x y;unfold dhH;cases !a || !b with
  | true => exact ⟨rfl, rfl⟩
  | false => cases !z3j x y <;> exact ⟨rfl, rfl⟩
 unfold z1y;cases t == 3 with
 | true => exact dh _ _ _ _
 | false =>
 cases t == 6 with
 | true => exact dh _ _ _ _
 | false =>
 cases t == 7 with
 | true =>
  show (bif _ then _ else _ : Hd).inn = _ ∧ (bif _ then _ else _ : Hd).out = _;cases decide ((h.s.psks.length : Int) ≤ h.s.used) <;> exact ⟨rfl, rfl⟩
 | false =>
 cases (t == 4) == h.s.first with
 | true => exact dh _ _ _ _
 | false => exact dh _ _ _ _
theorem z1bt {m : Nat} {h : Hd} (g : OkS m h.s) (hm : m < 1900) (t : Int) : OkS (m + 1) (z2u h t).s ∧ SameS (z2u h t).s h.s ∧ (z2u h t).inn.length ≤ h.inn.length := by
 unfold z2u;cases h.e == 0 with
 | false => exact ⟨g.up (by omega), SameS.refl _, Nat.le_refl _⟩
 | true =>
 simp only [cond_true];cases t == 1 with
 | true =>
  simp only [cond_true];cases hl : ltB h.inn.length 32 with
  | true => exact ⟨g.up (by omega), SameS.refl _, Nat.le_refl _⟩
  | false =>
   have hl2 := z3h hl;simp only [cond_false];have hn : (h.inn.take 32).length = 32 := by rw [List.length_take]; omega
   refine ⟨zwo (h := ⟨{ h.s with newest := h.inn.take 32, saw := true }, h.out, h.inn.drop 32, h.e⟩) ⟨g.ck, g.ch, g.hs, g.own, g.fr, g.their, hn, (g.up (Nat.le_succ m)).sy, g.ps, g.us⟩ _, (zrk _ _).trans ⟨rfl, rfl, rfl, rfl, rfl⟩, ?_⟩
   unfold z4y;cases decide (0 < _) <;> (show (h.inn.drop 32).length ≤ _; rw [List.length_drop]; omega)
 | false =>
 simp only [cond_false];cases t == 2 with
 | true =>
  simp only [cond_true];cases hl : ltB h.inn.length (z3x h) with
  | true => exact ⟨g.up (by omega), SameS.refl _, Nat.le_refl _⟩
  | false =>
   have hl2 := z3h hl;simp only [cond_false];cases z88 h.s.sh h.s.ck h.s.n h.s.hs (h.inn.take (z3x h)) with
   | true =>
    have ho : (z4f h.s.sh h.s.ck h.s.n (h.inn.take (z3x h))).length = 32 := by
     rw [zr8 (hash := []), List.length_take];unfold z3x at hl2 ⊢;cases hs : h.s.sh with
     | true => rw [hs] at hl2; simp only [cond_true] at hl2 ⊢; omega
     | false => rw [hs] at hl2; simp only [cond_false] at hl2 ⊢; omega
    exact ⟨⟨g.ck, g.ch, z1g _, g.own, g.fr, ho, g.newest, g.symN hm, g.ps, g.us⟩, ⟨rfl, rfl, rfl, rfl, rfl⟩, by show (h.inn.drop _).length ≤ _; rw [List.length_drop]; omega⟩
   | false => exact ⟨⟨g.ck, g.ch, g.hs, g.own, g.fr, g.their, g.newest, (g.up (Nat.le_succ m)).sy, g.ps, g.us⟩, ⟨rfl, rfl, rfl, rfl, rfl⟩, by show (h.inn.drop _).length ≤ _; rw [List.length_drop]; omega⟩
 | false =>
  exact ⟨(znf g t).up (by omega), zlc t h, by show (z1y t h).inn.length ≤ _; rw [(zc8 t h).1]; exact Nat.le_refl _⟩
theorem z1ct {m : Nat} {h : Hd} {sec : List UInt8} (g : OkS m h.s) (hs : sec.length = 32) (hm : m < 1900) (t : Int) : OkS (m + 1) (z3n sec h t).s ∧ SameS (z3n sec h t).s h.s ∧ (z3n sec h t).out.length ≤ h.out.length + 48 := by
 unfold z3n;cases h.e == 0 with
 | false => exact ⟨g.up (by omega), SameS.refl _, by show h.out.length ≤ _; omega⟩
 | true =>
 simp only [cond_true];cases t == 1 with
 | true =>
  simp only [cond_true];refine ⟨zwo (h := ⟨{ h.s with fr := sec, has := true }, h.out ++ zy sec, h.inn, h.e⟩) ⟨g.ck, g.ch, g.hs, g.own, hs, g.their, g.newest, (g.up (Nat.le_succ m)).sy, g.ps, g.us⟩ _, (zrk _ _).trans ⟨rfl, rfl, rfl, rfl, rfl⟩, ?_⟩
  unfold z4y;cases decide (0 < _) <;> (show (h.out ++ zy sec).length ≤ _; rw [List.length_append, z1v]; omega)
 | false =>
 simp only [cond_false];cases t == 2 with
 | true =>
  simp only [cond_true];refine ⟨zty g hm _, ⟨rfl, rfl, rfl, rfl, rfl⟩, ?_⟩;show (h.out ++ z2c _ _ _ _ _).length ≤ _;rw [List.length_append, zbh, z1v];cases h.s.sh with
  | true => simp only [cond_true]; omega
  | false => simp only [cond_false]; omega
 | false =>
  exact ⟨(znf g t).up (by omega), zlc t h, by show (z1y t h).out.length ≤ _; rw [(zc8 t h).2]; omega⟩
theorem zlz (p : Pat) (s : Sh) (b : List UInt8) (i : Nat) : hdR p s b (i + 1) = z2u (hdR p s b i) ((z13 p s).getD i 0) := by rw [z14a]; rfl
theorem zlk (p : Pat) (s : Sh) (b : List UInt8) : hdR p s b 0 = ⟨s, [], b, 0⟩ := by rw [z14a]; rfl
theorem zm2 (p : Pat) (s : Sh) (sec : List UInt8) (i : Nat) : hdW p s sec (i + 1) = z3n sec (hdW p s sec i) ((z13 p s).getD i 0) := by rw [z14b]; rfl
theorem zlv (p : Pat) (s : Sh) (sec : List UInt8) : hdW p s sec 0 = ⟨s, [], [], 0⟩ := by rw [z14b]; rfl
theorem ztc {m : Nat} {p : Pat} {s : Sh} {b : List UInt8} (g : OkS m s) : ∀ i, m + i < 1900 → OkS (m + i) (hdR p s b i).s ∧ SameS (hdR p s b i).s s ∧ (hdR p s b i).inn.length ≤ b.length
 | 0, _ => by rw [zlk]; exact ⟨g, SameS.refl _, Nat.le_refl _⟩
 | i + 1, hi => by
  obtain ⟨h1, h2, h3⟩ := ztc (p := p) (b := b) g i (by omega)
  obtain ⟨k1, k2, k3⟩ := z1bt h1 (by omega) ((z13 p s).getD i 0)
  rw [zlz];exact ⟨k1, k2.trans h2, Nat.le_trans k3 h3⟩
theorem zol {m : Nat} {p : Pat} {s : Sh} {sec : List UInt8} (g : OkS m s) (hs : sec.length = 32) : ∀ i, m + i < 1900 → OkS (m + i) (hdW p s sec i).s ∧ SameS (hdW p s sec i).s s ∧ (hdW p s sec i).out.length ≤ 48 * i
 | 0, _ => by rw [zlv]; exact ⟨g, SameS.refl _, Nat.le_refl _⟩
 | i + 1, hi => by
  obtain ⟨h1, h2, h3⟩ := zol (p := p) g hs i (by omega)
  obtain ⟨k1, k2, k3⟩ := z1ct h1 hs (by omega) ((z13 p s).getD i 0)
  rw [zm2];exact ⟨k1, k2.trans h2, by omega⟩
def z58 (p : Pat) (s : Sh) (own : Bool) : Bool := s.dead || (decide (s.turn < 0) || (!decide (s.turn < (p.turns.length : Int)) || ((((Int.tmod s.turn 2) == 0) == (s.first != p.late)) != own || decide (s.used < 0))))
def errO (n : Nat) : Int := bif ltB n 16 then 4 else 10
def zc2 (p : Pat) (s : Sh) (b : List UInt8) : Sh × List UInt8 × Int :=
 bif z58 p s false then (s, [], 9) else bif ltB 800 b.length then (s, [], 1)
 else bif (hdR p s b (z13 p s).length).e == 0 then
  (bif z88 (hdR p s b (z13 p s).length).s.sh (hdR p s b (z13 p s).length).s.ck (hdR p s b (z13 p s).length).s.n (hdR p s b (z13 p s).length).s.hs (hdR p s b (z13 p s).length).inn then
   ({ (hdR p s b (z13 p s).length).s with n := symN (hdR p s b (z13 p s).length).s.sh (hdR p s b (z13 p s).length).s.n, hs := sumS ((hdR p s b (z13 p s).length).s.hs ++ (hdR p s b (z13 p s).length).inn), turn := s.turn + 1 },
    z4f (hdR p s b (z13 p s).length).s.sh (hdR p s b (z13 p s).length).s.ck (hdR p s b (z13 p s).length).s.n (hdR p s b (z13 p s).length).inn, 0)
  else ({ s with dead := true }, [], errO (hdR p s b (z13 p s).length).inn.length))
 else ({ s with dead := true }, [], (hdR p s b (z13 p s).length).e)
def z2v : Pat → Sh → List UInt8 → Sh × List UInt8 × Int := (zf zc2).val
theorem zaa : z2v = zc2 := by rw [z2v, (zf zc2).property]
def zb8 (p : Pat) (s : Sh) (sec b : List UInt8) : Sh × List UInt8 × Int :=
 bif z58 p s true then (s, [], 9) else bif ltB 400 b.length then (s, [], 1)
 else bif (hdW p s sec (z13 p s).length).e == 0 then
  ({ (zc0 b (hdW p s sec (z13 p s).length)).s with turn := s.turn + 1 }, (zc0 b (hdW p s sec (z13 p s).length)).out, 0)
 else ({ s with dead := true }, [], (hdW p s sec (z13 p s).length).e)
def z1s : Pat → Sh → List UInt8 → List UInt8 → Sh × List UInt8 × Int := (zf zb8).val
theorem zb6 : z1s = zb8 := by rw [z1s, (zf zb8).property]
def z7y (p : Pat) (x : Sh × List UInt8 × Int) : Out := .ret (.tup [shV p x.1, .vec8 false x.2.1, .int .i64 x.2.2]) []
theorem zjc {p : Pat} (h : p ∈ z1q) : p.turns.length < 10 ∧ ∀ t ∈ p.turns, t.length < 20 := by
 have : (z1q.all fun p => decide (p.turns.length < 10) && p.turns.all fun t => decide (t.length < 20)) = true := by kernel_rfl
 have := List.all_eq_true.1 this p h;simpa using this
theorem zmt {p : Pat} (h : p ∈ z1q) (s : Sh) : (z13 p s).length < 20 := by
 unfold z13;rw [List.getD_eq_getElem?_getD];cases hg : p.turns[s.turn.toNat]? with
 | none => decide
 | some t => exact (zjc h).2 t (List.mem_of_getElem? hg)
theorem nil_le : leV (.vec8 true []) (.vec8 false []) := z176 rfl
theorem zho {p : Pat} {x : Sh × List UInt8 × Int} {s : Sh} {e : Int} (h : x = (s, [], e)) : okOut (z7y p x) (.tup [.agg (shC p s), .vec8 true [], .int .i64 e]) [] := by
 subst h;exact okOut.cold (v' := .tup [.agg (shC p s), .vec8 true [], .int .i64 e]) (u := []) rfl (z80 (z14 (leV.refl _) (z14 nil_le (z14 (leV.refl _) z3t)))) rfl ⟨rfl, rfl⟩
theorem z1an {p : Pat} {x : Sh × List UInt8 × Int} {s : Sh} {t : List UInt8} {e : Int} (h : x = (s, t, e)) : okOut (z7y p x) (.tup [.agg (shC p s), .vec8 false t, .int .i64 e]) [] := by
 subst h;exact okOut.here ⟨rfl, rfl⟩
theorem zcr {p : Pat} {s : Sh} (hp : p ∈ z1q) (hl : s.psks.length = p.psks.length) : isSh (shC p s) = true := zue.2 ⟨p, s, hp, hl, rfl⟩
theorem zz3 (n : Nat) (l : List UInt8) : zx none (some ((n : Nat) : Int)) l = l.take n := by show l.take (Int.toNat _) = _; rw [Int.toNat_natCast]
theorem zyf (n : Nat) (l : List UInt8) : zx (some ((n : Nat) : Int)) none l = l.drop n := by show l.drop (Int.toNat _) = _; rw [Int.toNat_natCast]
theorem z13v {a b : List UInt8} (ha : a.length = 32) (hb : b.length = 32) : a.take 32 ++ b.drop (min a.length 32) = a := by
 rw [ha, List.take_of_length_le (by omega), Nat.min_self, List.drop_eq_nil_of_le (by omega), List.append_nil]
theorem rd_c (p : Pat) (s : Sh) (fb : Bool) (b : List UInt8) (hp : p ∈ z1q) (hl : s.psks.length = p.psks.length) (g : OkS 1000 s) :
  HCall Tryz.E 10 [shV p s, .vec8 fb b] (z7y p (z2v p s b)) := by
 refine HCall.z1li (R := RSh) (T := KQ) (z1b5 p s b) 6 rfl rfl ?_;rw [z1iy];dsimp only;have refuse : ∀ e, z2v p s b = (s, [], e) → cnd (isSh (shC p s)) (okOut (z7y p (z2v p s b)) (.tup [.agg (shC p s), .vec8 true [], .int .i64 e]) []) := fun e he => zd.2 ⟨zcr hp hl, zho he⟩
 have no : z58 p s false = true → z2v p s b = (s, [], 9) := fun h => by rw [zaa, zc2, h]; rfl
 refine zq.2 ⟨fun h1 => refuse 9 (no (by rw [z58, h1]; rfl)), fun h1 => ?_⟩
 refine zq.2 ⟨fun h2 => refuse 9 (no ?_), fun h2 => ?_⟩
 ·have h2 : ltI s.turn 0 = true := h2;rw [z1o] at h2;rw [z58, h1, h2]; rfl
 have h2 : ltI s.turn 0 = false := h2;rw [z1o] at h2;refine zq.2 ⟨fun h3 => refuse 9 (no ?_), fun h3 => ?_⟩
 ·have h3 : (!ltI s.turn p.turns.length) = true := h3;rw [z1o] at h3;rw [z58, h1, h2, h3]; rfl
 have h3 : (!ltI s.turn p.turns.length) = false := h3;rw [z1o] at h3;refine zq.2 ⟨fun h4 => refuse 9 (no ?_), fun h4 => ?_⟩
 ·have h4 : ((((Int.tmod s.turn 2) == 0) == (s.first != p.late)) != false) = true := h4;rw [z58, h1, h2, h3, h4]; rfl
 have h4 : ((((Int.tmod s.turn 2) == 0) == (s.first != p.late)) != false) = false := h4;refine zd.2 ⟨zjx.2 ⟨p, hp, rfl⟩, ?_⟩;refine zq.2 ⟨fun h5 => refuse 9 (no ?_), fun h5 => ?_⟩
 ·have h5 : ltI s.used 0 = true := h5;rw [z1o] at h5;rw [z58, h1, h2, h3, h4, h5]; rfl
 have h5 : ltI s.used 0 = false := h5;rw [z1o] at h5;have hmay : z58 p s false = false := by rw [z58, h1, h2, h3, h4, h5]; rfl
 refine zq.2 ⟨fun h6 => refuse 1 ?_, fun h6 => ?_⟩
 ·have h6 : ltB 800 b.length = true := z1z.2 (by have := (z3w _ _).1 h6; omega)
  rw [zaa, zc2, hmay, h6]; rfl
 have h6 : ltB 800 b.length = false := by
  have := h6;rw [z1o, decide_eq_false_iff_not] at this;exact Bool.not_eq_true _ ▸ fun h => by have := z1z.1 h; omega
 have hb : b.length ≤ 800 := z3h h6;have t0 : 0 ≤ s.turn := by simpa using h2
 have t1 : s.turn < p.turns.length := by simpa using h3
 have hsm := zjc hp;have hts := zmt hp s;refine zd.2 ⟨by rw [z44 t0 t1]; rfl, ?_⟩
 rw [show p.turns.getD (Int.toNat s.turn) [] = z13 p s from rfl]
 refine ⟨?_, ?_⟩
 ·refine ⟨0, Inv.upTo_int.2 (by omega), zd.2 ⟨by cases fb <;> rfl, ?_⟩⟩
  rw [zlk]
  repeat' (first | exact rfl | exact trivial | exact fun _ _ => leR.refl rfl | apply And.intro)
  all_goals (refine zd.2 ⟨by cases fb <;> rfl, ?_⟩; exact ⟨rfl, rfl, trivial⟩)
 intro i hi;have hi := Inv.upTo_int.1 hi;obtain ⟨G, S, L⟩ := ztc (p := p) (b := b) g i (by omega)
 have LEAF : ∀ A : Hd, i < (z13 p s).length → A.s = (hdR p s b (i + 1)).s → A.inn = (hdR p s b (i + 1)).inn → A.e = (hdR p s b (i + 1)).e → z19 p s fb b i (wr .i64 (((i : Nat) : Int) + 1)) A := fun A a1 a2 a3 a4 => z17c a1 (by omega) a2 a3 a4
 simp only [zlz] at LEAF;generalize hH : hdR p s b i = h at *;generalize hT : (z13 p s).getD i 0 = t at LEAF;have hT2 : List.getD (z13 p s) (Int.toNat ((i : Nat) : Int)) 0 = t := hT;rw [hT2];have hK := G.symK (by omega)
 have lh : leB h.s.hs.length 200 = true := zp (by have := G.hs; omega)
 have lc : leB h.s.ch.length 64 = true := zp (by have := G.ch; omega)
 have ld : ∀ a c, leB (dhS a c).length 100000 = true := fun a c => zp (by rw [zmm]; omega)
 refine zq.2 ⟨fun hlt => ?_, fun hge => ?_⟩
 ·have hlt : i < (z13 p s).length := by
   have := (z3w _ _).1 hlt;exact Int.ofNat_lt.1 this
  refine zd.2 ⟨by rw [z44 (by omega) (Int.ofNat_lt.2 hlt)]; rfl, ?_⟩
  refine zq.2 ⟨fun he => ?_, fun he => ?_⟩
  rotate_left
  ·have TOK : z2u h t = h := by unfold z2u; rw [he]; rfl
   rw [TOK] at LEAF;exact LEAF _ hlt rfl rfl rfl
  have hne : (h.e != 0) = false := by unfold bne; rw [he]; rfl
  have he0 : h.e = 0 := by simpa using he
  simp only [he, hne, Go.V.ite2_true, Go.V.ite2_false];have e4 : ∀ n, ((bif ltB n 16 then (4 : Int) else 10) != 0) = true := fun n => by cases ltB n 16 <;> rfl
  have okN : ∀ k : Nat, k ≤ h.inn.length → z1d none (some ((k : Nat) : Int)) h.inn.length = true ∧ z1d (some ((k : Nat) : Int)) none h.inn.length = true := fun k hk => by
   refine ⟨?_, ?_⟩
   ·show (nnB _ && leB (Int.toNat _) _) = true;rw [z3e.2 (by omega), Int.toNat_natCast, zp hk]; rfl
   ·show (nnB _ && leB (Int.toNat _) _) = true;rw [z3e.2 (by omega), Int.toNat_natCast, zp hk]; rfl
  refine zq.2 ⟨fun t1 => ?_, fun t1 => ?_⟩
  · -- E
   refine zq.2 ⟨fun q => ?_, fun q => ?_⟩
   ·have q := (z3w _ _).1 q;have TOK : z2u h t = z5t h 4 := by unfold z2u; rw [he, t1, zih (a := h.inn.length) (by omega)]; rfl
    rw [TOK] at LEAF;exact LEAF _ hlt rfl rfl rfl
   ·have q : ¬ (h.inn.length : Int) < 32 := by rw [z1o, decide_eq_false_iff_not] at q; exact q
    have q : 32 ≤ h.inn.length := by omega
    have e1 : zx none (some 32) h.inn = h.inn.take 32 := zz3 32 _;have e2 : zx (some 32) none h.inn = h.inn.drop 32 := zyf 32 _;have l1 : (h.inn.take 32).length = 32 := by rw [List.length_take]; omega
    have e3 := z13v l1 G.newest;rw [e1, e2, e3];refine zd.2 ⟨(okN 32 q).1, zd.2 ⟨(okN 32 q).2, zd.2 ⟨zp (by rw [l1, G.hs]; omega), ?_⟩⟩⟩
    refine zq.2 ⟨fun r => zd.2 ⟨by rw [lc, zp (by omega)]; rfl, ?_⟩, fun r => ?_⟩
    ·have r : decide (0 < h.s.psks.length) = true := decide_eq_true (by have := (z3w _ _).1 r; omega)
     have TOK : z2u h t = z87 (zbt ⟨{ h.s with newest := h.inn.take 32, saw := true }, h.out, h.inn.drop 32, h.e⟩ (h.inn.take 32)) (h.inn.take 32) := by
      unfold z2u z4y; rw [he, t1, z3m (by omega)]; simp only [cond_true, cond_false, r]
     rw [TOK] at LEAF;exact LEAF _ hlt rfl rfl rfl
    ·have r : decide (0 < h.s.psks.length) = false := decide_eq_false (by rw [z1o, decide_eq_false_iff_not] at r; omega)
     have TOK : z2u h t = zbt ⟨{ h.s with newest := h.inn.take 32, saw := true }, h.out, h.inn.drop 32, h.e⟩ (h.inn.take 32) := by
      unfold z2u z4y; rw [he, t1, z3m (by omega)]; simp only [cond_true, cond_false, r]
     rw [TOK] at LEAF;exact LEAF _ hlt rfl rfl rfl
  refine zq.2 ⟨fun t2 => ?_, fun t2 => ?_⟩
  · -- S
   have main : ∀ k : Nat, (k = 32 ∨ k = 48) → z3x h = k →
     (za (ltI ((h.inn.length : Nat) : Int) ((k : Nat) : Int)) (z19 p s fb b i (wr .i64 (((i : Nat) : Int) + 1)) (z5t h 4))
      (cnd (z1d none (some ((k : Nat) : Int)) h.inn.length) (cnd (z1d (some ((k : Nat) : Int)) none h.inn.length)
       (cnd (leB h.s.hs.length 200 && (leB (zx none (some ((k : Nat) : Int)) h.inn).length 800 && symK h.s.sh h.s.ck h.s.n))
        (za (z88 h.s.sh h.s.ck h.s.n h.s.hs (zx none (some ((k : Nat) : Int)) h.inn))
         (z19 p s fb b i (wr .i64 (((i : Nat) : Int) + 1)) ⟨{ h.s with n := symN h.s.sh h.s.n, hs := sumS (h.s.hs ++ zx none (some ((k : Nat) : Int)) h.inn), their := (z4f h.s.sh h.s.ck h.s.n (zx none (some ((k : Nat) : Int)) h.inn)).take 32 ++ h.s.their.drop (min (z4f h.s.sh h.s.ck h.s.n (zx none (some ((k : Nat) : Int)) h.inn)).length 32), knows := true }, h.out, zx (some ((k : Nat) : Int)) none h.inn, h.e⟩)
         (z19 p s fb b i (wr .i64 (((i : Nat) : Int) + 1)) ⟨{ h.s with knows := true }, h.out, zx (some ((k : Nat) : Int)) none h.inn, bif ltB (zx none (some ((k : Nat) : Int)) h.inn).length 16 then 4 else 10⟩)))))) := by
    intro k hk hkl;refine zq.2 ⟨fun q => ?_, fun q => ?_⟩
    ·have q := (z3w _ _).1 q;have TOK : z2u h t = z5t h 4 := by unfold z2u; rw [he, t1, t2, hkl, zih (a := h.inn.length) (b := k) (by omega)]; rfl
     rw [TOK] at LEAF;exact LEAF _ hlt rfl rfl rfl
    ·have q : ¬ (h.inn.length : Int) < (k : Int) := by rw [z1o, decide_eq_false_iff_not] at q; exact q
     have q : k ≤ h.inn.length := by omega
     rw [zz3, zyf];have l1 : (h.inn.take k).length = k := by rw [List.length_take]; omega
     refine zd.2 ⟨(okN k q).1, zd.2 ⟨(okN k q).2, zd.2 ⟨by rw [lh, zp (by omega), hK]; rfl, ?_⟩⟩⟩
     refine zq.2 ⟨fun r => ?_, fun r => ?_⟩
     ·have lo : (z4f h.s.sh h.s.ck h.s.n (h.inn.take k)).length = 32 := by
       rw [zr8 (hash := []), l1];unfold z3x at hkl;cases hs : h.s.sh with
       | true => rw [hs] at hkl; simp only [cond_true] at hkl ⊢; omega
       | false => rw [hs] at hkl; simp only [cond_false] at hkl ⊢; omega
      rw [z13v lo G.their];have TOK : z2u h t = ⟨{ h.s with n := symN h.s.sh h.s.n, hs := sumS (h.s.hs ++ h.inn.take k), their := z4f h.s.sh h.s.ck h.s.n (h.inn.take k), knows := true }, h.out, h.inn.drop k, h.e⟩ := by
       unfold z2u; rw [he, t1, t2, hkl, z3m (a := h.inn.length) (b := k) (by omega), r]; rfl
      rw [TOK] at LEAF;exact LEAF _ hlt rfl rfl rfl
     ·have TOK : z2u h t = ⟨{ h.s with knows := true }, h.out, h.inn.drop k, bif ltB (h.inn.take k).length 16 then 4 else 10⟩ := by
       unfold z2u; rw [he, t1, t2, hkl, z3m (a := h.inn.length) (b := k) (by omega), r]; rfl
      rw [TOK] at LEAF;exact LEAF _ hlt rfl rfl rfl
   simp only [e4, Go.V.ite2_true];refine zq.2 ⟨fun hs => main 48 (.inr rfl) (by unfold z3x; rw [hs]; rfl), fun hs => main 32 (.inl rfl) (by unfold z3x; rw [hs]; rfl)⟩
  have half : ∀ (saw : Bool) (x y : List UInt8), z2u h t = dhH true saw x y h → za (bif false then true else !saw) (z19 p s fb b i (wr .i64 (((i : Nat) : Int) + 1)) ⟨h.s, [], h.inn, 5⟩)
    (za (!z3j x y) (z19 p s fb b i (wr .i64 (((i : Nat) : Int) + 1)) ⟨h.s, [], h.inn, 12⟩)
     (cnd (leB h.s.ch.length 64 && leB (dhS x y).length 100000) (z19 p s fb b i (wr .i64 (((i : Nat) : Int) + 1)) ⟨(z87 h (dhS x y)).s, [], h.inn, h.e⟩))) := by
   intro saw x y TOK;refine zq.2 ⟨fun q => ?_, fun q => zq.2 ⟨fun r => ?_, fun r => zd.2 ⟨by rw [lc, ld]; rfl, ?_⟩⟩⟩
   ·have q : saw = false := by simpa using q
    have TOK2 : z2u h t = z5t h 5 := by rw [TOK, dhH, q]; rfl
    rw [TOK2] at LEAF;exact LEAF _ hlt rfl rfl rfl
   ·have q : saw = true := by simpa using q
    have r : z3j x y = false := by simpa using r
    have TOK2 : z2u h t = z5t h 12 := by rw [TOK, dhH, q, r]; rfl
    rw [TOK2] at LEAF;exact LEAF _ hlt rfl rfl rfl
   ·have q : saw = true := by simpa using q
    have r : z3j x y = true := by simpa using r
    have TOK2 : z2u h t = z87 h (dhS x y) := by rw [TOK, dhH, q, r]; rfl
    rw [TOK2] at LEAF;exact LEAF _ hlt rfl rfl rfl
  have full : ∀ (own saw : Bool) (x y : List UInt8), z2u h t = dhH own saw x y h → za (!own) (z19 p s fb b i (wr .i64 (((i : Nat) : Int) + 1)) ⟨h.s, [], h.inn, 5⟩) (za (bif false then true else !saw) (z19 p s fb b i (wr .i64 (((i : Nat) : Int) + 1)) ⟨h.s, [], h.inn, 5⟩)
    (za (!z3j x y) (z19 p s fb b i (wr .i64 (((i : Nat) : Int) + 1)) ⟨h.s, [], h.inn, 12⟩)
     (cnd (leB h.s.ch.length 64 && leB (dhS x y).length 100000) (z19 p s fb b i (wr .i64 (((i : Nat) : Int) + 1)) ⟨(z87 h (dhS x y)).s, [], h.inn, h.e⟩)))) := by
   intro own saw x y TOK;refine zq.2 ⟨fun q => ?_, fun q => half saw x y ?_⟩
   ·have q : own = false := by simpa using q
    have TOK2 : z2u h t = z5t h 5 := by rw [TOK, dhH, q]; rfl
    rw [TOK2] at LEAF;exact LEAF _ hlt rfl rfl rfl
   ·have q : own = true := by simpa using q
    rw [TOK, q]
  refine zq.2 ⟨fun t3 => ?_, fun t3 => ?_⟩
  ·exact full _ _ _ _ (by unfold z2u z1y; rw [he, t1, t2, t3]; rfl)
  refine zq.2 ⟨fun t6 => ?_, fun t6 => ?_⟩
  ·exact half _ _ _ (by unfold z2u z1y; rw [he, t1, t2, t3, t6]; rfl)
  refine zq.2 ⟨fun t7 => ?_, fun t7 => ?_⟩
  ·refine zq.2 ⟨fun q => ?_, fun q => ?_⟩
   ·have q : decide ((h.s.psks.length : Int) ≤ h.s.used) = true := by
     rw [z1o] at q;exact decide_eq_true (by simpa using q)
    have TOK : z2u h t = z5t h 5 := by unfold z2u z1y; rw [he, t1, t2, t3, t6, t7, q]; rfl
    rw [TOK] at LEAF;exact LEAF _ hlt rfl rfl rfl
   ·have q1 : h.s.used < (h.s.psks.length : Int) := by
     rw [z1o] at q;simpa using q
    have q : decide ((h.s.psks.length : Int) ≤ h.s.used) = false := decide_eq_false (by omega)
    have lp : (h.s.psks.getD (Int.toNat h.s.used) []).length = 32 := by
     have := G.us;rw [List.getD_eq_getElem?_getD, List.getElem?_eq_getElem (by omega)]
     exact G.ps _ (List.getElem_mem _)
    refine zd.2 ⟨by rw [z44 G.us q1]; rfl, zd.2 ⟨by rw [lc, zp (by omega), zp (by have := G.hs; omega)]; rfl, ?_⟩⟩
    have TOK : z2u h t = ziy h := by unfold z2u z1y; rw [he, t1, t2, t3, t6, t7, q]; rfl
    rw [TOK] at LEAF;refine LEAF _ hlt ?_ rfl rfl;have : wr .i64 (h.s.used + 1) = h.s.used + 1 := z2f (by have := G.us; omega) (by have := S.psks; have := zdf hp; rw [S.psks] at q1; omega)
    rw [this]
    try rfl
  refine zq.2 ⟨fun t4 => ?_, fun t4 => ?_⟩
  ·exact full _ _ _ _ (by unfold z2u z1y; rw [he, t1, t2, t3, t6, t7, t4]; rfl)
  ·exact half _ _ _ (by unfold z2u z1y; rw [he, t1, t2, t3, t6, t7, t4]; rfl)
 ·have hi2 : i = (z13 p s).length := by
   rw [z1o, decide_eq_false_iff_not] at hge; omega
  have hR : hdR p s b (z13 p s).length = h := by rw [← hi2]; exact hH
  have dead : ∀ e, z2v p s b = ({ s with dead := true }, [], e) → cnd (isSh (shC p { s with dead := true })) (okOut (z7y p (z2v p s b)) (.tup [.agg (shC p { s with dead := true }), .vec8 true [], .int .i64 e]) []) := fun e he => zd.2 ⟨zcr hp hl, zho he⟩
  have e4 : ∀ n, ((bif ltB n 16 then (4 : Int) else 10) != 0) = true := fun n => by cases ltB n 16 <;> rfl
  refine zq.2 ⟨fun he => zd.2 ⟨by rw [lh, zp (by omega), hK]; rfl, ?_⟩, fun he => ?_⟩
  ·have hne : (h.e != 0) = false := by unfold bne; rw [he]; rfl
   simp only [he, hne, e4, Go.V.ite2_true, Go.V.ite2_false];refine zq.2 ⟨fun r => ?_, fun r => ?_⟩
   ·have hw : wr .i64 (h.s.turn + 1) = s.turn + 1 := by rw [S.turn]; exact z2f (by omega) (by omega)
    have hx : z2v p s b = ({ h.s with n := symN h.s.sh h.s.n, hs := sumS (h.s.hs ++ h.inn), turn := s.turn + 1 }, z4f h.s.sh h.s.ck h.s.n h.inn, 0) := by
     rw [zaa, zc2, hmay, h6, hR, he, r]; rfl
    rw [hw];exact zd.2 ⟨zcr (p := p) (s := { h.s with n := symN h.s.sh h.s.n, hs := sumS (h.s.hs ++ h.inn), turn := s.turn + 1 }) hp (by show h.s.psks.length = _; rw [S.psks]; exact hl), z1an hx⟩
   ·exact dead _ (by rw [zaa, zc2, hmay, h6, hR, he, r]; rfl)
  ·have hne : (h.e != 0) = true := by unfold bne; rw [he]; rfl
   simp only [he, hne, Go.V.ite2_true, Go.V.ite2_false];exact dead _ (by rw [zaa, zc2, hmay, h6, hR, he]; rfl)
theorem z1d4 (H : Heap) (p : Pat) (s : Sh) : z23 H (.agg (shC p s)) = (true, .agg (shC p s), []) := by cases H <;> rfl
theorem z1ca {p : Pat} {x : Sh × List UInt8 × Int} {s : Sh} {l : List UInt8} {n : Nat} {e : Int} (h : x = (s, l, e)) (hn : n = l.length) : okOut (z7y p x) (.tup [.agg (shC p s), .sl 0 0 1 n, .int .i64 e]) [.grow8 l []] := by
 subst h; subst hn
 refine okOut.cold (v' := .tup [.agg (shC p s), .vec8 false l, .int .i64 e]) (u := [(0, .grow8 l [(0, l.length)])]) ?_ (leV.refl _) rfl ⟨rfl, rfl⟩;have e1 : zm [Ent.grow8 l []] [] = [Ent.grow8 l []] := rfl;simp only [z3f, z2a, z1d4, e1, zuq (show l.length = l.length from rfl)]
 rfl
theorem all0 (l : List UInt8) : List.take l.length (List.drop 0 l) = l := by rw [List.drop_zero, List.take_length]
theorem wr_c (p : Pat) (s : Sh) (fb : Bool) (sec b : List UInt8) (hp : p ∈ z1q) (hl : s.psks.length = p.psks.length) (g : OkS 1000 s) :
  HCall Tryz.E 8 [shV p s, .b8 32 sec, .vec8 fb b] (z7y p (z1s p s sec b)) := by
 refine HCall.z1lj rfl rfl fun hlen => ?_
 have hsec : sec.length = 32 := hlen (.b8 32 sec) (by simp)
 refine HCall.z1li (R := RSh) (T := KQ) (z14o p s sec) 6 rfl rfl ?_;rw [z6v];dsimp only;have refuse : ∀ e, z1s p s sec b = (s, [], e) → cnd (isSh (shC p s)) (okOut (z7y p (z1s p s sec b)) (.tup [.agg (shC p s), .vec8 true [], .int .i64 e]) []) := fun e he => zd.2 ⟨zcr hp hl, zho he⟩
 have no : z58 p s true = true → z1s p s sec b = (s, [], 9) := fun h => by rw [zb6, zb8, h]; rfl
 refine zq.2 ⟨fun h1 => refuse 9 (no (by rw [z58, h1]; rfl)), fun h1 => ?_⟩
 refine zq.2 ⟨fun h2 => refuse 9 (no ?_), fun h2 => ?_⟩
 ·have h2 : ltI s.turn 0 = true := h2;rw [z1o] at h2;rw [z58, h1, h2]; rfl
 have h2 : ltI s.turn 0 = false := h2;rw [z1o] at h2;refine zq.2 ⟨fun h3 => refuse 9 (no ?_), fun h3 => ?_⟩
 ·have h3 : (!ltI s.turn p.turns.length) = true := h3;rw [z1o] at h3;rw [z58, h1, h2, h3]; rfl
 have h3 : (!ltI s.turn p.turns.length) = false := h3;rw [z1o] at h3;refine zq.2 ⟨fun h4 => refuse 9 (no ?_), fun h4 => ?_⟩
 ·have h4 : ((((Int.tmod s.turn 2) == 0) == (s.first != p.late)) != true) = true := h4;rw [z58, h1, h2, h3, h4]; rfl
 have h4 : ((((Int.tmod s.turn 2) == 0) == (s.first != p.late)) != true) = false := h4;refine zd.2 ⟨zjx.2 ⟨p, hp, rfl⟩, ?_⟩;refine zq.2 ⟨fun h5 => refuse 9 (no ?_), fun h5 => ?_⟩
 ·have h5 : ltI s.used 0 = true := h5;rw [z1o] at h5;rw [z58, h1, h2, h3, h4, h5]; rfl
 have h5 : ltI s.used 0 = false := h5;rw [z1o] at h5;have hmay : z58 p s true = false := by rw [z58, h1, h2, h3, h4, h5]; rfl
 refine zq.2 ⟨fun h6 => refuse 1 ?_, fun h6 => ?_⟩
 ·have h6 : ltB 400 b.length = true := z1z.2 (by have := (z3w _ _).1 h6; omega)
  rw [zb6, zb8, hmay, h6]; rfl
 have h6 : ltB 400 b.length = false := by
  have := h6;rw [z1o, decide_eq_false_iff_not] at this;exact Bool.not_eq_true _ ▸ fun h => by have := z1z.1 h; omega
 have hb : b.length ≤ 400 := z3h h6;have t0 : 0 ≤ s.turn := by simpa using h2
 have t1 : s.turn < p.turns.length := by simpa using h3
 have hsm := zjc hp;have hts := zmt hp s;refine zd.2 ⟨by rw [z44 t0 t1]; rfl, ?_⟩
 rw [show p.turns.getD (Int.toNat s.turn) [] = z13 p s from rfl]
 refine ⟨?_, ?_⟩
 ·refine ⟨0, Inv.upTo_int.2 (by omega), zd.2 ⟨by cases fb <;> rfl, ?_⟩⟩
  rw [zlv]
  repeat' (first | exact rfl | exact trivial | exact fun _ _ => leR.refl rfl | apply And.intro)
  all_goals (refine zd.2 ⟨by cases fb <;> rfl, ?_⟩; exact ⟨rfl, rfl, trivial⟩)
 intro i hi;have hi := Inv.upTo_int.1 hi;obtain ⟨G, S, O⟩ := zol (p := p) g hsec i (by omega)
 have LEAF : ∀ (A : Hd) (m : Nat), i < (z13 p s).length → A.s = (hdW p s sec (i + 1)).s → A.out = (hdW p s sec (i + 1)).out → A.e = (hdW p s sec (i + 1)).e → m = A.out.length → z1x p s fb sec b i (wr .i64 (((i : Nat) : Int) + 1)) m A := fun A m a1 a2 a3 a4 a5 => z17h a1 (by omega) a2 a3 a4 a5
 simp only [zm2] at LEAF;generalize hH : hdW p s sec i = h at *;generalize hT : (z13 p s).getD i 0 = t at LEAF;have hT2 : List.getD (z13 p s) (Int.toNat ((i : Nat) : Int)) 0 = t := hT;rw [hT2];have hK := G.symK (by omega)
 have lh : leB h.s.hs.length 200 = true := zp (by have := G.hs; omega)
 have lc : leB h.s.ch.length 64 = true := zp (by have := G.ch; omega)
 have ld : ∀ a c, leB (dhS a c).length 100000 = true := fun a c => zp (by rw [zmm]; omega)
 refine zq.2 ⟨fun hlt => ?_, fun hge => ?_⟩
 ·have hlt : i < (z13 p s).length := by
   have := (z3w _ _).1 hlt;exact Int.ofNat_lt.1 this
  refine zd.2 ⟨by rw [z44 (by omega) (Int.ofNat_lt.2 hlt)]; rfl, ?_⟩
  refine zq.2 ⟨fun he => ?_, fun he => ?_⟩
  rotate_left
  ·have TOK : z3n sec h t = h := by unfold z3n; rw [he]; rfl
   rw [TOK] at LEAF;exact LEAF _ _ hlt rfl rfl rfl rfl
  have hne : (h.e != 0) = false := by unfold bne; rw [he]; rfl
  have he0 : h.e = 0 := by simpa using he
  simp only [he, hne, Go.V.ite2_true, Go.V.ite2_false];have e4 : ∀ n, ((bif ltB n 16 then (4 : Int) else 10) != 0) = true := fun n => by cases ltB n 16 <;> rfl
  have lo : h.out.length ≤ 48 * i := O;have lp : (zy sec).length = 32 := z1v _;refine zq.2 ⟨fun t1 => ?_, fun t1 => ?_⟩
  · -- E
   refine zd.2 ⟨beq_self_eq_true _, zd.2 ⟨zp (by omega), zd.2 ⟨zp (by have := G.hs; omega), ?_⟩⟩⟩
   refine zq.2 ⟨fun r => zd.2 ⟨by rw [lc, zp (by omega)]; rfl, ?_⟩, fun r => ?_⟩
   ·have r : decide (0 < h.s.psks.length) = true := decide_eq_true (by have := (z3w _ _).1 r; omega)
    have TOK : z3n sec h t = z87 (zbt ⟨{ h.s with fr := sec, has := true }, h.out ++ zy sec, h.inn, h.e⟩ (zy sec)) (zy sec) := by
     unfold z3n z4y; rw [he, t1]; simp only [cond_true, cond_false, r]
    rw [TOK] at LEAF;exact LEAF _ _ hlt rfl rfl rfl (by show _ = (h.out ++ zy sec).length; rw [List.length_append])
   ·have r : decide (0 < h.s.psks.length) = false := decide_eq_false (by rw [z1o, decide_eq_false_iff_not] at r; omega)
    have TOK : z3n sec h t = zbt ⟨{ h.s with fr := sec, has := true }, h.out ++ zy sec, h.inn, h.e⟩ (zy sec) := by
     unfold z3n z4y; rw [he, t1]; simp only [cond_true, cond_false, r]
    rw [TOK] at LEAF;exact LEAF _ _ hlt rfl rfl rfl (by show _ = (h.out ++ zy sec).length; rw [List.length_append])
  refine zq.2 ⟨fun t2 => ?_, fun t2 => ?_⟩
  · -- S
   have lq : (zy h.s.own).length = 32 := z1v _;have ls : (z2c h.s.sh h.s.ck h.s.n h.s.hs (zy h.s.own)).length ≤ 48 := by
    rw [zbh, lq]; cases h.s.sh with
    | true => simp only [cond_true]; omega
    | false => simp only [cond_false]; omega
   rw [all0];refine zd.2 ⟨by rw [lh, zp (by omega), hK]; rfl, zd.2 ⟨by rw [zp (by omega)]; rfl, zd.2 ⟨beq_self_eq_true _, zd.2 ⟨zp (by omega), ?_⟩⟩⟩⟩
   have TOK : z3n sec h t = zc0 (zy h.s.own) h := by unfold z3n; rw [he, t1, t2]; rfl
   rw [TOK] at LEAF;exact LEAF _ _ hlt rfl rfl rfl (by show _ = (h.out ++ z2c _ _ _ _ _).length; rw [List.length_append])
  have half : ∀ (saw : Bool) (x y : List UInt8), z3n sec h t = dhH true saw x y h → za (bif false then true else !saw) (z1x p s fb sec b i (wr .i64 (((i : Nat) : Int) + 1)) h.out.length ⟨h.s, h.out, [], 5⟩)
    (za (!z3j x y) (z1x p s fb sec b i (wr .i64 (((i : Nat) : Int) + 1)) h.out.length ⟨h.s, h.out, [], 12⟩)
     (cnd (leB h.s.ch.length 64 && leB (dhS x y).length 100000) (z1x p s fb sec b i (wr .i64 (((i : Nat) : Int) + 1)) h.out.length ⟨(z87 h (dhS x y)).s, h.out, [], h.e⟩))) := by
   intro saw x y TOK;refine zq.2 ⟨fun q => ?_, fun q => zq.2 ⟨fun r => ?_, fun r => zd.2 ⟨by rw [lc, ld]; rfl, ?_⟩⟩⟩
   ·have q : saw = false := by simpa using q
    have TOK2 : z3n sec h t = z5t h 5 := by rw [TOK, dhH, q]; rfl
    rw [TOK2] at LEAF;exact LEAF _ _ hlt rfl rfl rfl rfl
   ·have q : saw = true := by simpa using q
    have r : z3j x y = false := by simpa using r
    have TOK2 : z3n sec h t = z5t h 12 := by rw [TOK, dhH, q, r]; rfl
    rw [TOK2] at LEAF;exact LEAF _ _ hlt rfl rfl rfl rfl
   ·have q : saw = true := by simpa using q
    have r : z3j x y = true := by simpa using r
    have TOK2 : z3n sec h t = z87 h (dhS x y) := by rw [TOK, dhH, q, r]; rfl
    rw [TOK2] at LEAF;exact LEAF _ _ hlt rfl rfl rfl rfl
  have full : ∀ (own saw : Bool) (x y : List UInt8), z3n sec h t = dhH own saw x y h → za (!own) (z1x p s fb sec b i (wr .i64 (((i : Nat) : Int) + 1)) h.out.length ⟨h.s, h.out, [], 5⟩) (za (bif false then true else !saw) (z1x p s fb sec b i (wr .i64 (((i : Nat) : Int) + 1)) h.out.length ⟨h.s, h.out, [], 5⟩)
    (za (!z3j x y) (z1x p s fb sec b i (wr .i64 (((i : Nat) : Int) + 1)) h.out.length ⟨h.s, h.out, [], 12⟩)
     (cnd (leB h.s.ch.length 64 && leB (dhS x y).length 100000) (z1x p s fb sec b i (wr .i64 (((i : Nat) : Int) + 1)) h.out.length ⟨(z87 h (dhS x y)).s, h.out, [], h.e⟩)))) := by
   intro own saw x y TOK;refine zq.2 ⟨fun q => ?_, fun q => half saw x y ?_⟩
   ·have q : own = false := by simpa using q
    have TOK2 : z3n sec h t = z5t h 5 := by rw [TOK, dhH, q]; rfl
    rw [TOK2] at LEAF;exact LEAF _ _ hlt rfl rfl rfl rfl
   ·have q : own = true := by simpa using q
    rw [TOK, q]
  refine zq.2 ⟨fun t3 => ?_, fun t3 => ?_⟩
  ·exact full _ _ _ _ (by unfold z3n z1y; rw [he, t1, t2, t3]; rfl)
  refine zq.2 ⟨fun t6 => ?_, fun t6 => ?_⟩
  ·exact half _ _ _ (by unfold z3n z1y; rw [he, t1, t2, t3, t6]; rfl)
  refine zq.2 ⟨fun t7 => ?_, fun t7 => ?_⟩
  ·refine zq.2 ⟨fun q => ?_, fun q => ?_⟩
   ·have q : decide ((h.s.psks.length : Int) ≤ h.s.used) = true := by
     rw [z1o] at q;exact decide_eq_true (by simpa using q)
    have TOK : z3n sec h t = z5t h 5 := by unfold z3n z1y; rw [he, t1, t2, t3, t6, t7, q]; rfl
    rw [TOK] at LEAF;exact LEAF _ _ hlt rfl rfl rfl rfl
   ·have q1 : h.s.used < (h.s.psks.length : Int) := by
     rw [z1o] at q;simpa using q
    have q : decide ((h.s.psks.length : Int) ≤ h.s.used) = false := decide_eq_false (by omega)
    have lp : (h.s.psks.getD (Int.toNat h.s.used) []).length = 32 := by
     have := G.us;rw [List.getD_eq_getElem?_getD, List.getElem?_eq_getElem (by omega)]
     exact G.ps _ (List.getElem_mem _)
    refine zd.2 ⟨by rw [z44 G.us q1]; rfl, zd.2 ⟨by rw [lc, zp (by omega), zp (by have := G.hs; omega)]; rfl, ?_⟩⟩
    have TOK : z3n sec h t = ziy h := by unfold z3n z1y; rw [he, t1, t2, t3, t6, t7, q]; rfl
    rw [TOK] at LEAF;refine LEAF _ _ hlt ?_ rfl rfl rfl;have : wr .i64 (h.s.used + 1) = h.s.used + 1 := z2f (by have := G.us; omega) (by have := S.psks; have := zdf hp; rw [S.psks] at q1; omega)
    rw [this]
    try rfl
  refine zq.2 ⟨fun t4 => ?_, fun t4 => ?_⟩
  ·exact full _ _ _ _ (by unfold z3n z1y; rw [he, t1, t2, t3, t6, t7, t4]; rfl)
  ·exact half _ _ _ (by unfold z3n z1y; rw [he, t1, t2, t3, t6, t7, t4]; rfl)
 ·have hi2 : i = (z13 p s).length := by
   rw [z1o, decide_eq_false_iff_not] at hge; omega
  have hR : hdW p s sec (z13 p s).length = h := by rw [← hi2]; exact hH
  have dead : ∀ e, z1s p s sec b = ({ s with dead := true }, [], e) → cnd (isSh (shC p { s with dead := true })) (okOut (z7y p (z1s p s sec b)) (.tup [.agg (shC p { s with dead := true }), .vec8 true [], .int .i64 e]) []) := fun e he => zd.2 ⟨zcr hp hl, zho he⟩
  refine zq.2 ⟨fun he => zd.2 ⟨by rw [lh, zp (by omega), hK]; rfl, ?_⟩, fun he => ?_⟩
  ·have hne : (h.e != 0) = false := by unfold bne; rw [he]; rfl
   simp only [he, hne, Go.V.ite2_true, Go.V.ite2_false];have ls : (z2c h.s.sh h.s.ck h.s.n h.s.hs b).length ≤ 416 := by
    rw [zbh]; cases h.s.sh with
    | true => simp only [cond_true]; omega
    | false => simp only [cond_false]; omega
   have hw : wr .i64 (h.s.turn + 1) = s.turn + 1 := by rw [S.turn]; exact z2f (by omega) (by omega)
   have hx : z1s p s sec b = ({ (zc0 b h).s with turn := s.turn + 1 }, (zc0 b h).out, 0) := by
    rw [zb6, zb8, hmay, h6, hR, he]; rfl
   rw [hw];rw [all0];refine zd.2 ⟨by rw [zp (by omega)]; rfl, zd.2 ⟨beq_self_eq_true _, zd.2 ⟨zp (by have := O; omega), ?_⟩⟩⟩
   exact zd.2 ⟨zcr (p := p) (s := { (zc0 b h).s with turn := s.turn + 1 }) hp (by show h.s.psks.length = _; rw [S.psks]; exact hl), z1ca hx (by show _ = (h.out ++ z2c _ _ _ _ _).length; rw [List.length_append])⟩
  ·have hne : (h.e != 0) = true := by unfold bne; rw [he]; rfl
   simp only [he, hne, Go.V.ite2_true, Go.V.ite2_false];exact dead _ (by rw [zb6, zb8, hmay, h6, hR, he]; rfl)
def preC : Nat → List Int × List Int
 | 0 => ([], [])
 | 1 => ([], [2])
 | 2 => ([2], [2])
 | _ => ([1], [])
def isC (c : Nat) (p : Pat) : Bool := p.pre0 == (preC c).1 && p.pre1 == (preC c).2
theorem cls {p : Pat} (h : p ∈ z1q) : isC 0 p = true ∨ isC 1 p = true ∨ isC 2 p = true ∨ isC 3 p = true := by
 have : (z1q.all fun p => isC 0 p || (isC 1 p || (isC 2 p || isC 3 p))) = true := by kernel_rfl
 have := List.all_eq_true.1 this p h;simpa only [Bool.or_eq_true] using this
def z3a (c : Nat) (p : Pat) : AV := .agg [.str p.base, .bool p.late, .vecr false 1 p.psks.length (intF p.psks), vL (preC c).1, vL (preC c).2, .vecr false 1 p.turns.length (trF p.turns)]
theorem zdv (c : Nat) (p : Pat) : z1b (z3a c p) = true := by
 show zw _ = true;simp only [zw, z1b, zck, Bool.and_self]
theorem zvr {c : Nat} {p : Pat} (h : isC c p = true) : leV (z9w p) (z3a c p) := by
 simp only [isC, Bool.and_eq_true, beq_iff_eq] at h;refine leV_cells ?_;unfold zpk;rw [h.1, h.2];exact RLe.same (RLe.same (RLe.same (RLe.cons (Re.of rfl (by simp) rfl rfl (by simp [vL]) (z9k _)) (RLe.cons (Re.of rfl (by simp) rfl rfl (by simp [vL]) (z9k _)) (RLe.refl _)))))
theorem z1fw (p : Pat) : leV (z54 p) (z9w p) :=
 leV_cells (RLe.same (RLe.same (RLe.cons (Re.of (a := vL _) rfl (by simp [vL]) rfl rfl (by simp) (leV_vLI _)) (RLe.cons (Re.of (a := vL _) rfl (by simp [vL]) rfl rfl (by simp) (leV_vLI _)) (RLe.cons (Re.of (a := vL _) rfl (by simp [vL]) rfl rfl (by simp) (leV_vLI _)) (RLe.cons (Re.of (a := vLL _) rfl (by simp [vLL]) rfl rfl (by simp) (leV_vLT _)) (RLe.refl _)))))))
def zz (s : List UInt8) : Pat := @dite _ (∃ p ∈ z1q, z16 p = s) (Classical.propDecidable _) (fun h => Classical.choose h) (fun _ => default)
theorem z120 {s : List UInt8} (h : ∃ p ∈ z1q, z16 p = s) : zz s ∈ z1q ∧ z16 (zz s) = s := by
 unfold zz;rw [dif_pos h];exact Classical.choose_spec h
theorem z1a1 {p q : Pat} (hp : p ∈ z1q) (hq : q ∈ z1q) (h : z16 p = z16 q) : p = q := by
 have : (zpr.all fun x => zpr.all fun y => !(x.1 == y.1) || decide (x.2 = y.2)) = true := by kernel_rfl
 have := List.all_eq_true.1 (List.all_eq_true.1 this _ (zhl hp)) _ (zhl hq);simp only [Bool.or_eq_true, Bool.not_eq_true', beq_eq_false_iff_ne, decide_eq_true_eq] at this;exact this.resolve_left fun k => k h
theorem zcd {p : Pat} (hp : p ∈ z1q) : zz (z16 p) = p :=
 have h := z120 ⟨p, hp, rfl⟩
 z1a1 h.1 hp h.2
def isNF (c : Nat) (s : List UInt8) : Bool := yes (∃ p ∈ z1q, z16 p = s ∧ isC c p = true)
def isN : Nat → List UInt8 → Bool := (zf isNF).val
theorem zff {c : Nat} {s : List UInt8} : isN c s = true ↔ ∃ p ∈ z1q, z16 p = s ∧ isC c p = true := by rw [isN, (zf isNF).property]; exact z8y
def Pc (c : Nat) : Ctr Tryz.E := (Ctr.nil Tryz.E).add 17 (fun
  | [.str s] => some (isN c s, .ret (.tup [z3a c (zz s), .int .i64 0]) [])
  | _ => none) (by
   intro args pre out h hp
   split at h
   ·rename_i s;obtain ⟨rfl, rfl⟩ := spE h;obtain ⟨p, h1, rfl, h3⟩ := zff.1 hp;rw [zcd h1];exact HCall.weak (z1cx p h1) (z80 (z14 ((z1fw p).trans (zvr h3)) (z14 (leV.refl _) z3t))) (z3p _ (by show zw _ = true; rw [zw, zdv]; rfl) _)
   ·simp at h)
def erB (e : Int) : AV := .tup [.agg [.agg [.str [], .bool false, .vec true 1 [], .agg [.vec true 1 [], .vec true 1 []], .vec true 1 []], .bool false, .int .i64 0, .bool false, .agg [.agg [.bool false, .b8 32 [0, 0, 0, 0, 0, 0, 0, 0, 0, 0, 0, 0, 0, 0, 0, 0, 0, 0, 0, 0, 0, 0, 0, 0, 0, 0, 0, 0, 0, 0, 0, 0], .u64 0], .b8 32 [0, 0, 0, 0, 0, 0, 0, 0, 0, 0, 0, 0, 0, 0, 0, 0, 0, 0, 0, 0, 0, 0, 0, 0, 0, 0, 0, 0, 0, 0, 0, 0], .b8 32 [0, 0, 0, 0, 0, 0, 0, 0, 0, 0, 0, 0, 0, 0, 0, 0, 0, 0, 0, 0, 0, 0, 0, 0, 0, 0, 0, 0, 0, 0, 0, 0]], .b8 32 [0, 0, 0, 0, 0, 0, 0, 0, 0, 0, 0, 0, 0, 0, 0, 0, 0, 0, 0, 0, 0, 0, 0, 0, 0, 0, 0, 0, 0, 0, 0, 0], .b8 32 [0, 0, 0, 0, 0, 0, 0, 0, 0, 0, 0, 0, 0, 0, 0, 0, 0, 0, 0, 0, 0, 0, 0, 0, 0, 0, 0, 0, 0, 0, 0, 0], .bool false, .b8 32 [0, 0, 0, 0, 0, 0, 0, 0, 0, 0, 0, 0, 0, 0, 0, 0, 0, 0, 0, 0, 0, 0, 0, 0, 0, 0, 0, 0, 0, 0, 0, 0], .bool false, .b8 32 [0, 0, 0, 0, 0, 0, 0, 0, 0, 0, 0, 0, 0, 0, 0, 0, 0, 0, 0, 0, 0, 0, 0, 0, 0, 0, 0, 0, 0, 0, 0, 0], .bool false, .vec true 32 [], .int .i64 0], .int .i64 e]
def KB (c : Nat) : Ctr Tryz.E := Ctr.or (Pc c) (Ctr.or M1 (Ctr.or Y6 Y4))
theorem z1gp (name : List UInt8) (first fp : Bool) (pro own their : List UInt8) (knows : Bool) (early : List UInt8) (psks : List (List UInt8)) (K : AV → Heap → Prop) : walk Tryz.E RSh (KB 0).C (fun _ _ => .unroll 5) 6 6 [.str name, .bool first, .vec8 fp pro, .b8 32 own, .b8 32 their, .bool knows, .b8 32 early, .vecr false 32 psks.length (keyF psks)] K = (
 let x0 : Nat := pro.length
 let x1 : List UInt8 := [0, 0, 0, 0, 0, 0, 0, 0, 0, 0, 0, 0, 0, 0, 0, 0, 0, 0, 0, 0, 0, 0, 0, 0, 0, 0, 0, 0, 0, 0, 0, 0]
 let x2 : Nat := psks.length
 let x3 : List Int := (Pat.Pat.psks (zz name))
 let x4 : Nat := x3.length
 let x5 : List (List Int) := (Pat.Pat.turns (zz name))
 let u0 : List AV := [.agg [.agg [.str (Pat.Pat.base (zz name)), .bool (Pat.Pat.late (zz name)), .vecr false 1 x4 (Pat.intF x3), .vec false 1 [], .vec false 1 [], .vecr false 1 x5.length (Pat.trF x5)], .bool first, .int .i64 0, .bool false, .agg [.bool false, .b8 32 zk, .u64 0, .b8 32 (zt name), .b8 32 (Bla.sumS ((zt name) ++ pro))], .b8 32 own, .b8 32 x1, .bool false, .b8 32 their, .bool knows, .b8 32 x1, .bool false, .slv 0 32 x2 (Shk.keyF psks), .int .i64 0], .int .i64 0]
 cnd (isN 0 name)
 (za (ltI 200 (x0 : Int))
 (K (erB 1) [])
 (za (cond false true ((x2 : Int) != (x4 : Int)))
 (K (erB 1) [])
 (za (Bool.not knows)
 (za (cond true (Bool.not (their == x1)) false)
 (K (erB 3) [])
 (cnd (leB name.length 1000000)
 (cnd (leB ((zt name).length + x0) 1000000)
 (cnd (leB (x2 * 32) 140737488355328)
 (K (.tup u0) [Ent.tail 32 x2])))))
 (cnd (leB name.length 1000000)
 (cnd (leB ((zt name).length + x0) 1000000)
 (cnd (leB (x2 * 32) 140737488355328)
 (K (.tup u0) [Ent.tail 32 x2])))))))) := by kernel_rfl
theorem z1gr (name : List UInt8) (first fp : Bool) (pro own their : List UInt8) (knows : Bool) (early : List UInt8) (psks : List (List UInt8)) (K : AV → Heap → Prop) : walk Tryz.E RSh (KB 1).C (fun _ _ => .unroll 5) 6 6 [.str name, .bool first, .vec8 fp pro, .b8 32 own, .b8 32 their, .bool knows, .b8 32 early, .vecr false 32 psks.length (keyF psks)] K = (
 let x0 : Nat := pro.length
 let x1 : List UInt8 := [0, 0, 0, 0, 0, 0, 0, 0, 0, 0, 0, 0, 0, 0, 0, 0, 0, 0, 0, 0, 0, 0, 0, 0, 0, 0, 0, 0, 0, 0, 0, 0]
 let x2 : Nat := psks.length
 let x3 : List Int := (Pat.Pat.psks (zz name))
 let x4 : Nat := x3.length
 let x5 : Bool := Bool.not knows
 let x6 : List UInt8 := (Bla.sumS ((zt name) ++ pro))
 let x7 : Nat := x6.length
 let x8 : List (List Int) := (Pat.Pat.turns (zz name))
 let x9 : List Ent := [Ent.tail 32 x2]
 let u0 : List AV := [.str (Pat.Pat.base (zz name)), .bool (Pat.Pat.late (zz name)), .vecr false 1 x4 (Pat.intF x3), .vec false 1 [], .vec false 1 [.int .i64 2], .vecr false 1 x8.length (Pat.trF x8)]
 let u1 : List AV := [.agg [.agg u0, .bool first, .int .i64 0, .bool false, .agg [.bool false, .b8 32 zk, .u64 0, .b8 32 (zt name), .b8 32 (Bla.sumS (x6 ++ (zy own)))], .b8 32 own, .b8 32 x1, .bool false, .b8 32 their, .bool knows, .b8 32 x1, .bool false, .slv 0 32 x2 (Shk.keyF psks), .int .i64 0], .int .i64 0]
 let u2 : List AV := [.agg [.agg u0, .bool first, .int .i64 0, .bool false, .agg [.bool false, .b8 32 zk, .u64 0, .b8 32 (zt name), .b8 32 (Bla.sumS (x6 ++ their))], .b8 32 own, .b8 32 x1, .bool false, .b8 32 their, .bool knows, .b8 32 x1, .bool false, .slv 0 32 x2 (Shk.keyF psks), .int .i64 0], .int .i64 0]
 cnd (isN 1 name)
 (za (ltI 200 (x0 : Int))
 (K (erB 1) [])
 (za (cond false true ((x2 : Int) != (x4 : Int)))
 (K (erB 1) [])
 (za (x5)
 (za (cond true (Bool.not (their == x1)) false)
 (K (erB 3) [])
 (cnd (leB name.length 1000000)
 (cnd (leB ((zt name).length + x0) 1000000)
 (cnd (leB (x2 * 32) 140737488355328)
 (za (cond true (first == false) false)
 (cnd (leB (x7 + (zy own).length) 1000000)
 (K (.tup u1) x9))
 (za (x5)
 (K (erB 5) [])
 (cnd (leB (x7 + their.length) 1000000)
 (K (.tup u2) x9))))))))
 (cnd (leB name.length 1000000)
 (cnd (leB ((zt name).length + x0) 1000000)
 (cnd (leB (x2 * 32) 140737488355328)
 (za (cond true (first == false) false)
 (cnd (leB (x7 + (zy own).length) 1000000)
 (K (.tup u1) x9))
 (za (x5)
 (K (erB 5) [])
 (cnd (leB (x7 + their.length) 1000000)
 (K (.tup u2) x9))))))))))) := by kernel_rfl
theorem z1hc (name : List UInt8) (first fp : Bool) (pro own their : List UInt8) (knows : Bool) (early : List UInt8) (psks : List (List UInt8)) (K : AV → Heap → Prop) : walk Tryz.E RSh (KB 2).C (fun _ _ => .unroll 5) 6 6 [.str name, .bool first, .vec8 fp pro, .b8 32 own, .b8 32 their, .bool knows, .b8 32 early, .vecr false 32 psks.length (keyF psks)] K = (
 let x0 : Nat := pro.length
 let x1 : List UInt8 := [0, 0, 0, 0, 0, 0, 0, 0, 0, 0, 0, 0, 0, 0, 0, 0, 0, 0, 0, 0, 0, 0, 0, 0, 0, 0, 0, 0, 0, 0, 0, 0]
 let x2 : Nat := psks.length
 let x3 : List Int := (Pat.Pat.psks (zz name))
 let x4 : Nat := x3.length
 let x5 : Bool := Bool.not knows
 let x6 : List UInt8 := (Bla.sumS ((zt name) ++ pro))
 let x7 : Nat := x6.length
 let x8 : Nat := (zy own).length
 let x9 : Bool := cond true (first == false) false
 let x10 : List UInt8 := (Bla.sumS (x6 ++ (zy own)))
 let x11 : Nat := x10.length
 let x12 : List (List Int) := (Pat.Pat.turns (zz name))
 let x13 : List Ent := [Ent.tail 32 x2]
 let x14 : Nat := their.length
 let x15 : List UInt8 := (Bla.sumS (x6 ++ their))
 let x16 : Nat := x15.length
 let u0 : List AV := [.str (Pat.Pat.base (zz name)), .bool (Pat.Pat.late (zz name)), .vecr false 1 x4 (Pat.intF x3), .vec false 1 [.int .i64 2], .vec false 1 [.int .i64 2], .vecr false 1 x12.length (Pat.trF x12)]
 let u1 : List AV := [.agg [.agg u0, .bool first, .int .i64 0, .bool false, .agg [.bool false, .b8 32 zk, .u64 0, .b8 32 (zt name), .b8 32 (Bla.sumS (x10 ++ (zy own)))], .b8 32 own, .b8 32 x1, .bool false, .b8 32 their, .bool knows, .b8 32 x1, .bool false, .slv 0 32 x2 (Shk.keyF psks), .int .i64 0], .int .i64 0]
 let u2 : List AV := [.agg [.agg u0, .bool first, .int .i64 0, .bool false, .agg [.bool false, .b8 32 zk, .u64 0, .b8 32 (zt name), .b8 32 (Bla.sumS (x15 ++ (zy own)))], .b8 32 own, .b8 32 x1, .bool false, .b8 32 their, .bool knows, .b8 32 x1, .bool false, .slv 0 32 x2 (Shk.keyF psks), .int .i64 0], .int .i64 0]
 let u3 : List AV := [.agg [.agg u0, .bool first, .int .i64 0, .bool false, .agg [.bool false, .b8 32 zk, .u64 0, .b8 32 (zt name), .b8 32 (Bla.sumS (x10 ++ their))], .b8 32 own, .b8 32 x1, .bool false, .b8 32 their, .bool knows, .b8 32 x1, .bool false, .slv 0 32 x2 (Shk.keyF psks), .int .i64 0], .int .i64 0]
 let u4 : List AV := [.agg [.agg u0, .bool first, .int .i64 0, .bool false, .agg [.bool false, .b8 32 zk, .u64 0, .b8 32 (zt name), .b8 32 (Bla.sumS (x15 ++ their))], .b8 32 own, .b8 32 x1, .bool false, .b8 32 their, .bool knows, .b8 32 x1, .bool false, .slv 0 32 x2 (Shk.keyF psks), .int .i64 0], .int .i64 0]
 cnd (isN 2 name)
 (za (ltI 200 (x0 : Int))
 (K (erB 1) [])
 (za (cond false true ((x2 : Int) != (x4 : Int)))
 (K (erB 1) [])
 (za (x5)
 (za (cond true (Bool.not (their == x1)) false)
 (K (erB 3) [])
 (cnd (leB name.length 1000000)
 (cnd (leB ((zt name).length + x0) 1000000)
 (cnd (leB (x2 * 32) 140737488355328)
 (za (cond true (first == true) false)
 (cnd (leB (x7 + x8) 1000000)
 (za (x9)
 (cnd (leB (x11 + x8) 1000000)
 (K (.tup u1) x13))
 (za (x5)
 (K (erB 5) [])
 (cnd (leB (x11 + x14) 1000000)
 (K (.tup u3) x13)))))
 (za (x5)
 (K (erB 5) [])
 (cnd (leB (x7 + x14) 1000000)
 (za (x9)
 (cnd (leB (x16 + x8) 1000000)
 (K (.tup u2) x13))
 (za (x5)
 (K (erB 5) [])
 (cnd (leB (x16 + x14) 1000000)
 (K (.tup u4) x13)))))))))))
 (cnd (leB name.length 1000000)
 (cnd (leB ((zt name).length + x0) 1000000)
 (cnd (leB (x2 * 32) 140737488355328)
 (za (cond true (first == true) false)
 (cnd (leB (x7 + x8) 1000000)
 (za (x9)
 (cnd (leB (x11 + x8) 1000000)
 (K (.tup u1) x13))
 (za (x5)
 (K (erB 5) [])
 (cnd (leB (x11 + x14) 1000000)
 (K (.tup u3) x13)))))
 (za (x5)
 (K (erB 5) [])
 (cnd (leB (x7 + x14) 1000000)
 (za (x9)
 (cnd (leB (x16 + x8) 1000000)
 (K (.tup u2) x13))
 (za (x5)
 (K (erB 5) [])
 (cnd (leB (x16 + x14) 1000000)
 (K (.tup u4) x13)))))))))))))) := by kernel_rfl
theorem z1f7 (name : List UInt8) (first fp : Bool) (pro own their : List UInt8) (knows : Bool) (early : List UInt8) (psks : List (List UInt8)) (K : AV → Heap → Prop) : walk Tryz.E RSh (KB 3).C (fun _ _ => .unroll 5) 6 6 [.str name, .bool first, .vec8 fp pro, .b8 32 own, .b8 32 their, .bool knows, .b8 32 early, .vecr false 32 psks.length (keyF psks)] K = (
 let x0 : Nat := pro.length
 let x1 : List UInt8 := [0, 0, 0, 0, 0, 0, 0, 0, 0, 0, 0, 0, 0, 0, 0, 0, 0, 0, 0, 0, 0, 0, 0, 0, 0, 0, 0, 0, 0, 0, 0, 0]
 let x2 : Nat := psks.length
 let x3 : Int := (x2 : Int)
 let x4 : List Int := (Pat.Pat.psks (zz name))
 let x5 : Nat := x4.length
 let x6 : Nat := (zt name).length
 let x7 : Bool := first == true
 let x8 : List UInt8 := (Bla.sumS ((zt name) ++ pro))
 let x9 : Nat := x8.length
 let x10 : Nat := (zy early).length
 let x11 : List AV := [.int .i64 1]
 let x12 : List (List Int) := (Pat.Pat.turns (zz name))
 let x13 : List Ent := [Ent.tail 32 x2]
 let x14 : Nat := early.length
 let u0 : List AV := [.str (Pat.Pat.base (zz name)), .bool (Pat.Pat.late (zz name)), .vecr false 1 x5 (Pat.intF x4), .vec false 1 x11, .vec false 1 [], .vecr false 1 x12.length (Pat.trF x12)]
 let u1 : List AV := [.bool true, .b8 32 (z29 (zt name) (zy early)), .u64 0, .b8 32 (z28 (zt name) (zy early)), .b8 32 (Bla.sumS (x8 ++ (zy early)))]
 let u2 : List AV := [.bool true, .b8 32 (z29 (zt name) early), .u64 0, .b8 32 (z28 (zt name) early), .b8 32 (Bla.sumS (x8 ++ early))]
 let u3 : List AV := [.agg [.agg u0, .bool first, .int .i64 0, .bool false, .agg [.bool false, .b8 32 zk, .u64 0, .b8 32 (zt name), .b8 32 (Bla.sumS (x8 ++ (zy early)))], .b8 32 own, .b8 32 early, .bool true, .b8 32 their, .bool knows, .b8 32 x1, .bool false, .slv 0 32 x2 (Shk.keyF psks), .int .i64 0], .int .i64 0]
 let u4 : List AV := [.agg [.agg u0, .bool first, .int .i64 0, .bool false, .agg [.bool false, .b8 32 zk, .u64 0, .b8 32 (zt name), .b8 32 (Bla.sumS (x8 ++ (zy early)))], .b8 32 own, .b8 32 x1, .bool false, .b8 32 their, .bool knows, .b8 32 early, .bool true, .slv 0 32 x2 (Shk.keyF psks), .int .i64 0], .int .i64 0]
 let u5 : List AV := [.agg [.agg u0, .bool first, .int .i64 0, .bool false, .agg [.bool false, .b8 32 zk, .u64 0, .b8 32 (zt name), .b8 32 (Bla.sumS (x8 ++ early))], .b8 32 own, .b8 32 early, .bool true, .b8 32 their, .bool knows, .b8 32 x1, .bool false, .slv 0 32 x2 (Shk.keyF psks), .int .i64 0], .int .i64 0]
 let u6 : List AV := [.agg [.agg u0, .bool first, .int .i64 0, .bool false, .agg [.bool false, .b8 32 zk, .u64 0, .b8 32 (zt name), .b8 32 (Bla.sumS (x8 ++ early))], .b8 32 own, .b8 32 x1, .bool false, .b8 32 their, .bool knows, .b8 32 early, .bool true, .slv 0 32 x2 (Shk.keyF psks), .int .i64 0], .int .i64 0]
 let u7 : List AV := [.agg [.agg u0, .bool first, .int .i64 0, .bool false, .agg u1, .b8 32 own, .b8 32 early, .bool true, .b8 32 their, .bool knows, .b8 32 x1, .bool false, .slv 0 32 x2 (Shk.keyF psks), .int .i64 0], .int .i64 0]
 let u8 : List AV := [.agg [.agg u0, .bool first, .int .i64 0, .bool false, .agg u1, .b8 32 own, .b8 32 x1, .bool false, .b8 32 their, .bool knows, .b8 32 early, .bool true, .slv 0 32 x2 (Shk.keyF psks), .int .i64 0], .int .i64 0]
 let u9 : List AV := [.agg [.agg u0, .bool first, .int .i64 0, .bool false, .agg u2, .b8 32 own, .b8 32 early, .bool true, .b8 32 their, .bool knows, .b8 32 x1, .bool false, .slv 0 32 x2 (Shk.keyF psks), .int .i64 0], .int .i64 0]
 let u10 : List AV := [.agg [.agg u0, .bool first, .int .i64 0, .bool false, .agg u2, .b8 32 own, .b8 32 x1, .bool false, .b8 32 their, .bool knows, .b8 32 early, .bool true, .slv 0 32 x2 (Shk.keyF psks), .int .i64 0], .int .i64 0]
 cnd (isN 3 name)
 (za (ltI 200 (x0 : Int))
 (K (erB 1) [])
 (za (cond false true (x3 != (x5 : Int)))
 (K (erB 1) [])
 (za (Bool.not knows)
 (za (cond true (Bool.not (their == x1)) false)
 (K (erB 3) [])
 (cnd (leB name.length 1000000)
 (cnd (leB (x6 + x0) 1000000)
 (cnd (leB (x2 * 32) 140737488355328)
 (za (x7)
 (cnd (leB (x9 + x10) 1000000)
 (za (ltI 0 x3)
 (cnd ((leB x6 64) && (leB x10 100000))
 (za (x7)
 (K (.tup u7) x13)
 (K (.tup u8) x13)))
 (za (x7)
 (K (.tup u3) x13)
 (K (.tup u4) x13))))
 (cnd (leB (x9 + x14) 1000000)
 (za (ltI 0 x3)
 (cnd ((leB x6 64) && (leB x14 100000))
 (za (x7)
 (K (.tup u9) x13)
 (K (.tup u10) x13)))
 (za (x7)
 (K (.tup u5) x13)
 (K (.tup u6) x13)))))))))
 (cnd (leB name.length 1000000)
 (cnd (leB (x6 + x0) 1000000)
 (cnd (leB (x2 * 32) 140737488355328)
 (za (x7)
 (cnd (leB (x9 + x10) 1000000)
 (za (ltI 0 x3)
 (cnd ((leB x6 64) && (leB x10 100000))
 (za (x7)
 (K (.tup u7) x13)
 (K (.tup u8) x13)))
 (za (x7)
 (K (.tup u3) x13)
 (K (.tup u4) x13))))
 (cnd (leB (x9 + x14) 1000000)
 (za (ltI 0 x3)
 (cnd ((leB x6 64) && (leB x14 100000))
 (za (x7)
 (K (.tup u9) x13)
 (K (.tup u10) x13)))
 (za (x7)
 (K (.tup u5) x13)
 (K (.tup u6) x13)))))))))))) := by kernel_rfl
theorem zrm (has : Bool) (ck : List UInt8) (n : UInt64) (hash b : List UInt8) : z88 has ck n hash (z2c has ck n hash b) = true := by
 rw [zps, zk1];unfold zgt zjr;cases has with
 | false => rfl
 | true =>
  simp only [cond_true];rw [z196, z7o, zp (by omega)]; rfl
theorem zqz (has : Bool) (ck : List UInt8) (n : UInt64) (hash b : List UInt8) : z4f has ck n (z2c has ck n hash b) = b := by
 rw [zoz, zk1];unfold zo8 zjr;cases has with
 | false => rfl
 | true => exact z12d _ _ _ _
structure Fl where
 ew : Bool
 er : Bool
 kw : Bool
 kr : Bool
 used : Nat
def Fl.swap (f : Fl) : Fl := ⟨f.er, f.ew, f.kr, f.kw, f.used⟩
def zlq (i : Bool) (n : Nat) (f : Fl) (t : Int) : Option Fl :=
 bif t == 1 then some { f with ew := true }
 else bif t == 2 then some { f with kr := true }
 else bif t == 3 then (bif f.ew && f.er then some f else none)
 else bif t == 6 then (bif f.kw && f.kr then some f else none)
 else bif t == 7 then (bif decide (f.used < n) then some { f with used := f.used + 1 } else none)
 else bif (t == 4) == i then (bif f.ew && f.kw then some f else none)
 else (bif f.er && f.kr then some f else none)
structure Syn (i : Bool) (a b c d : List UInt8) (f : Fl) (w r : Sh) : Prop where
 fw : w.first = i
 fr : r.first = !i
 ow : w.own = a
 rw' : r.own = b
 ps : w.psks = r.psks
 us : w.used = r.used
 un : w.used = (f.used : Int)
 sh : w.sh = r.sh
 ck : w.ck = r.ck
 n : w.n = r.n
 ch : w.ch = r.ch
 hs : w.hs = r.hs
 ew : f.ew = true → w.has = true ∧ w.fr = c ∧ r.saw = true ∧ r.newest = zy c
 er : f.er = true → r.has = true ∧ r.fr = d ∧ w.saw = true ∧ w.newest = zy d
 kw : w.knows = f.kw
 kr : r.knows = f.kr
 tw : f.kw = true → w.their = zy b
 tr : f.kr = true → r.their = zy a
theorem Syn.swap {i : Bool} {a b c d : List UInt8} {f : Fl} {w r : Sh} (S : Syn i a b c d f w r) : Syn (!i) b a d c f.swap r w :=
 ⟨S.fr, by rw [S.fw, Bool.not_not], S.rw', S.ow, S.ps.symm, S.us.symm, by rw [← S.us]; exact S.un, S.sh.symm, S.ck.symm, S.n.symm, S.ch.symm, S.hs.symm, S.er, S.ew, S.kr, S.kw, S.tr, S.tw⟩
theorem Syn.key {i : Bool} {a b c d : List UInt8} {f : Fl} {h g : Hd} (S : Syn i a b c d f h.s g.s) (k : List UInt8) : Syn i a b c d f (z87 h k).s (z87 g k).s :=
 ⟨S.fw, S.fr, S.ow, S.rw', S.ps, S.us, S.un, rfl, by show z29 _ k = z29 _ k; rw [S.ch], rfl, by show z28 _ k = z28 _ k; rw [S.ch], S.hs, S.ew, S.er, S.kw, S.kr, S.tw, S.tr⟩
theorem Syn.hash {i : Bool} {a b c d : List UInt8} {f : Fl} {h g : Hd} (S : Syn i a b c d f h.s g.s) (k : List UInt8) : Syn i a b c d f (zbt h k).s (zbt g k).s :=
 ⟨S.fw, S.fr, S.ow, S.rw', S.ps, S.us, S.un, S.sh, S.ck, S.n, S.ch, by show sumS (_ ++ k) = sumS (_ ++ k); rw [S.hs], S.ew, S.er, S.kw, S.kr, S.tw, S.tr⟩
theorem Syn.told {i : Bool} {a b c d : List UInt8} {f : Fl} {h g : Hd} (S : Syn i a b c d f h.s g.s) (k : List UInt8) : Syn i a b c d f (z4y k h).s (z4y k g).s := by
 unfold z4y;rw [S.ps];cases decide (0 < g.s.psks.length) with
 | true => exact Syn.key (S.hash k) k
 | false => exact S.hash k
theorem z16y (k : List UInt8) (h : Hd) : (z4y k h).e = h.e ∧ (z4y k h).inn = h.inn ∧ (z4y k h).out = h.out := by
 unfold z4y;cases decide (0 < h.s.psks.length) <;> exact ⟨rfl, rfl, rfl⟩
theorem zbk {h : Hd} {x y : List UInt8} (ht : z3j x y = true) : dhH true true x y h = z87 h (dhS x y) := by
 unfold dhH;rw [ht]; rfl
theorem znd {i : Bool} {a b c d : List UInt8} {f f' : Fl} {h g : Hd} {t : Int} (la : a.length = 32) (lb : b.length = 32) (lc : c.length = 32) (ld : d.length = 32)
  (S : Syn i a b c d f h.s g.s) (t1 : (t == 1) = false) (t2 : (t == 2) = false) (ht : zlq i h.s.psks.length f t = some f') :
  (∃ k, z1y t h = z87 h k ∧ z1y t g = z87 g k ∧ f' = f) ∨ (z1y t h = ziy h ∧ z1y t g = ziy g ∧ f' = { f with used := f.used + 1 }) := by
 unfold zlq at ht;rw [t1, t2, cond_false, cond_false] at ht;unfold z1y;cases t3 : t == 3 with
 | true =>
  rw [t3, cond_true] at ht;cases hb : f.ew && f.er with
  | false => rw [hb] at ht; cases ht
  | true =>
   rw [hb, cond_true, Option.some.injEq] at ht;simp only [Bool.and_eq_true] at hb;obtain ⟨e1, e2, e3, e4⟩ := S.ew hb.1;obtain ⟨d1, d2, d3, d4⟩ := S.er hb.2;simp only [cond_true];rw [e1, e2, e3, e4, d1, d2, d3, d4, zbk (z7a lc ld), zbk (z7a ld lc)];exact .inl ⟨_, rfl, by rw [zka], ht.symm⟩
 | false =>
 rw [t3, cond_false] at ht;cases t6 : t == 6 with
 | true =>
  rw [t6, cond_true] at ht;cases hb : f.kw && f.kr with
  | false => rw [hb] at ht; cases ht
  | true =>
   rw [hb, cond_true, Option.some.injEq] at ht;simp only [Bool.and_eq_true] at hb;simp only [cond_true, cond_false];rw [S.kw, S.kr, hb.1, hb.2, S.ow, S.rw', S.tw hb.1, S.tr hb.2, zbk (z7a la lb), zbk (z7a lb la)];exact .inl ⟨_, rfl, by rw [zka], ht.symm⟩
 | false =>
 rw [t6, cond_false] at ht;cases t7 : t == 7 with
 | true =>
  rw [t7, cond_true] at ht;cases hb : decide (f.used < h.s.psks.length) with
  | false => rw [hb] at ht; cases ht
  | true =>
   rw [hb, cond_true, Option.some.injEq] at ht;rw [decide_eq_true_eq] at hb;have q1 : decide ((h.s.psks.length : Int) ≤ h.s.used) = false := decide_eq_false (by rw [S.un]; omega)
   have q2 : decide ((g.s.psks.length : Int) ≤ g.s.used) = false := by rw [← S.ps, ← S.us]; exact q1
   simp only [cond_true, cond_false];rw [q1, q2];exact .inr ⟨rfl, rfl, ht.symm⟩
 | false =>
 rw [t7, cond_false] at ht;simp only [cond_false];rw [S.fw, S.fr];cases t4 : (t == 4) == i with
 | true =>
  rw [t4, cond_true] at ht;have t5 : ((t == 4) == !i) = false := by
   revert t4; cases (t == 4) <;> cases i <;> simp
  rw [t5];cases hb : f.ew && f.kw with
  | false => rw [hb] at ht; cases ht
  | true =>
   rw [hb, cond_true, Option.some.injEq] at ht;simp only [Bool.and_eq_true] at hb;obtain ⟨e1, e2, e3, e4⟩ := S.ew hb.1;simp only [cond_true, cond_false];rw [S.kw, hb.2, S.rw', S.tw hb.2, e1, e2, e3, e4, zbk (z7a lc lb), zbk (z7a lb lc)];exact .inl ⟨_, rfl, by rw [zka], ht.symm⟩
 | false =>
  rw [t4, cond_false] at ht;have t5 : ((t == 4) == !i) = true := by
   revert t4; cases (t == 4) <;> cases i <;> simp
  rw [t5];cases hb : f.er && f.kr with
  | false => rw [hb] at ht; cases ht
  | true =>
   rw [hb, cond_true, Option.some.injEq] at ht;simp only [Bool.and_eq_true] at hb;obtain ⟨d1, d2, d3, d4⟩ := S.er hb.1;simp only [cond_true, cond_false];rw [S.kr, hb.2, S.ow, S.tr hb.2, d1, d2, d3, d4, zbk (z7a la ld), zbk (z7a ld la)];exact .inl ⟨_, rfl, by rw [zka], ht.symm⟩
theorem Syn.psk {i : Bool} {a b c d : List UInt8} {f : Fl} {h g : Hd} (S : Syn i a b c d f h.s g.s) : Syn i a b c d { f with used := f.used + 1 } (ziy h).s (ziy g).s := by
 refine ⟨S.fw, S.fr, S.ow, S.rw', S.ps, ?_, ?_, rfl, ?_, rfl, ?_, ?_, S.ew, S.er, S.kw, S.kr, S.tw, S.tr⟩
 ·show h.s.used + 1 = g.s.used + 1;rw [S.us]
 ·show h.s.used + 1 = ((f.used + 1 : Nat) : Int);rw [S.un]; rfl
 ·show za5 _ _ = za5 _ _;rw [S.ch, S.us, S.ps]
 ·show z28 _ _ = z28 _ _;rw [S.ch, S.us, S.ps]
 ·show sumS (_ ++ z29 _ _) = sumS (_ ++ z29 _ _);rw [S.hs, S.ch, S.us, S.ps]
theorem zyq {i : Bool} {a b c d : List UInt8} {f f' : Fl} {h g : Hd} {t : Int} (la : a.length = 32) (lb : b.length = 32) (lc : c.length = 32) (ld : d.length = 32)
  (S : Syn i a b c d f h.s g.s) (he : h.e = 0) (ge : g.e = 0) (ht : zlq i h.s.psks.length f t = some f') :
  ∃ msg, (z3n c h t).out = h.out ++ msg ∧ (z3n c h t).e = 0 ∧ ∀ rest, g.inn = msg ++ rest → (z2u g t).inn = rest ∧ (z2u g t).e = 0 ∧ Syn i a b c d f' (z3n c h t).s (z2u g t).s := by
 have e0 : (h.e == 0) = true := by rw [he]; rfl
 have e1 : (g.e == 0) = true := by rw [ge]; rfl
 unfold z3n z2u;rw [e0, e1, cond_true, cond_true];cases t1 : t == 1 with
 | true =>
  unfold zlq at ht;rw [t1, cond_true, Option.some.injEq] at ht;subst ht;simp only [cond_true];obtain ⟨k1, _, k3⟩ := z16y (zy c) { h with s := { h.s with fr := c, has := true }, out := h.out ++ zy c }
  refine ⟨zy c, k3, k1.trans he, fun rest hr => ?_⟩
  have l1 : (zy c).length = 32 := z1v c;have ll : ltB g.inn.length 32 = false := by rw [hr, List.length_append]; exact z3m (by omega)
  have tk : g.inn.take 32 = zy c := by rw [hr, ← l1, List.take_left]
  have dr : g.inn.drop 32 = rest := by rw [hr, ← l1, List.drop_left]
  rw [ll, tk, dr, cond_false];obtain ⟨m1, m2, _⟩ := z16y (zy c) { g with s := { g.s with newest := zy c, saw := true }, inn := rest }
  refine ⟨m2, m1.trans ge, Syn.told (h := { h with s := { h.s with fr := c, has := true }, out := h.out ++ zy c }) (g := { g with s := { g.s with newest := zy c, saw := true }, inn := rest }) ?_ _⟩
  exact ⟨S.fw, S.fr, S.ow, S.rw', S.ps, S.us, S.un, S.sh, S.ck, S.n, S.ch, S.hs, fun _ => ⟨rfl, rfl, rfl, rfl⟩, S.er, S.kw, S.kr, S.tw, S.tr⟩
 | false =>
 simp only [cond_false];cases t2 : t == 2 with
 | true =>
  unfold zlq at ht;rw [t1, t2, cond_false, cond_true, Option.some.injEq] at ht;subst ht;simp only [cond_true];refine ⟨z2c h.s.sh h.s.ck h.s.n h.s.hs (zy h.s.own), rfl, he, fun rest hr => ?_⟩
  have l1 : (z2c h.s.sh h.s.ck h.s.n h.s.hs (zy h.s.own)).length = z3x g := by
   rw [zbh, z1v]; unfold z3x; rw [S.sh]
  have ll : ltB g.inn.length (z3x g) = false := by rw [hr, List.length_append]; exact z3m (by omega)
  have tk : g.inn.take (z3x g) = z2c h.s.sh h.s.ck h.s.n h.s.hs (zy h.s.own) := by rw [hr, ← l1, List.take_left]
  have dr : g.inn.drop (z3x g) = rest := by rw [hr, ← l1, List.drop_left]
  rw [ll, tk, dr, cond_false, ← S.sh, ← S.ck, ← S.n, ← S.hs, zrm, zqz];exact ⟨rfl, ge, ⟨S.fw, S.fr, S.ow, S.rw', S.ps, S.us, S.un, rfl, rfl, rfl, S.ch, rfl, S.ew, S.er, S.kw, rfl, S.tw, fun _ => by show zy h.s.own = _; rw [S.ow]⟩⟩
 | false =>
  simp only [cond_false];have IN := zc8 t h;have IG := zc8 t g;refine ⟨[], by rw [IN.2, List.append_nil], ?_, fun rest hr => ?_⟩
  ·rcases znd la lb lc ld S t1 t2 ht with ⟨k, h1, _, _⟩ | ⟨h1, _, _⟩ <;> rw [h1] <;> exact he
  ·refine ⟨by rw [IG.1, hr]; rfl, ?_⟩
   rcases znd la lb lc ld S t1 t2 ht with ⟨k, h1, h2, rfl⟩ | ⟨h1, h2, rfl⟩
   ·rw [h1, h2]; exact ⟨ge, S.key k⟩
   ·rw [h1, h2]; exact ⟨ge, S.psk⟩
def flK (i : Bool) (n : Nat) (f : Fl) (l : List Int) : Nat → Option Fl
 | 0 => some f
 | k + 1 => (flK i n f l k).bind fun g => zlq i n g (l.getD k 0)
theorem z199 {i : Bool} {n : Nat} {f : Fl} {l : List Int} {k : Nat} {g : Fl} (h : flK i n f l (k + 1) = some g) : ∃ g', flK i n f l k = some g' ∧ zlq i n g' (l.getD k 0) = some g := by
 rw [flK] at h;cases hk : flK i n f l k with
 | none => rw [hk] at h; cases h
 | some g' => rw [hk] at h; exact ⟨g', rfl, h⟩
theorem zt5 {i : Bool} {a b c d : List UInt8} {f : Fl} {p : Pat} {w r : Sh} {m : Nat} (la : a.length = 32) (lb : b.length = 32) (lc : c.length = 32) (ld : d.length = 32)
  (S : Syn i a b c d f w r) (gw : OkS m w) (ht : w.turn = r.turn) : ∀ (k : Nat) (f' : Fl), m + k < 1900 → flK i w.psks.length f (z13 p w) k = some f' →
  (hdW p w c k).e = 0 ∧ ∀ rest, (hdR p r ((hdW p w c k).out ++ rest) k).inn = rest ∧ (hdR p r ((hdW p w c k).out ++ rest) k).e = 0 ∧ Syn i a b c d f' (hdW p w c k).s (hdR p r ((hdW p w c k).out ++ rest) k).s
 | 0, f', _, h => by
  rw [flK, Option.some.injEq] at h;subst h;rw [zlv];refine ⟨rfl, fun rest => ?_⟩
  rw [zlk];exact ⟨rfl, rfl, S⟩
 | k + 1, f', hm, h => by
  obtain ⟨f1, h1, h2⟩ := z199 h;obtain ⟨i1, i2⟩ := zt5 la lb lc ld S gw ht k f1 (by omega) h1
  have hps : (hdW p w c k).s.psks = w.psks := (zol (p := p) gw lc k (by omega)).2.1.psks
  have tk : z13 p r = z13 p w := by unfold z13; rw [ht]
  rw [zm2];obtain ⟨j1, j2, j3⟩ := i2 [];obtain ⟨msg, q1, q2, _⟩ := zyq (t := (z13 p w).getD k 0) la lb lc ld j3 i1 j2 (by rw [hps]; exact h2)
  refine ⟨q2, fun rest => ?_⟩
  rw [zlz, tk, q1, List.append_assoc];obtain ⟨j1, j2, j3⟩ := i2 (msg ++ rest);obtain ⟨msg', q1', q2', q3'⟩ := zyq (t := (z13 p w).getD k 0) la lb lc ld j3 i1 j2 (by rw [hps]; exact h2)
  have : msg' = msg := List.append_cancel_left (q1'.symm.trans q1);subst this;exact q3' rest j1
theorem zud {i : Bool} {a b c d : List UInt8} {f f' : Fl} {p : Pat} {w r : Sh} {m : Nat} {txt : List UInt8} (la : a.length = 32) (lb : b.length = 32) (lc : c.length = 32) (ld : d.length = 32)
  (S : Syn i a b c d f w r) (gw : OkS m w) (gr : OkS m r) (hm : m ≤ 900) (ht : w.turn = r.turn) (t0 : 0 ≤ w.turn) (t1 : w.turn < p.turns.length) (dw : w.dead = false) (dr : r.dead = false)
  (hi : i = ((Int.tmod w.turn 2 == 0) != p.late)) (htok : (z13 p w).length ≤ 7) (hf : flK i w.psks.length f (z13 p w) (z13 p w).length = some f') (hx : txt.length ≤ 300) :
  ∃ w' r' msg, z1s p w c txt = (w', msg, 0) ∧ z2v p r msg = (r', txt, 0) ∧ Syn i a b c d f' w' r' ∧ OkS (m + 8) w' ∧ OkS (m + 8) r' ∧ w'.turn = w.turn + 1 ∧ r'.turn = w.turn + 1 ∧ w'.dead = false ∧ r'.dead = false ∧ w'.psks = w.psks := by
 have tk : z13 p r = z13 p w := by unfold z13; rw [ht]
 obtain ⟨h1, h2⟩ := zt5 la lb lc ld S gw ht _ _ (by omega) hf
 obtain ⟨k1, k2, k3⟩ := zol (p := p) gw lc (z13 p w).length (by omega)
 have l0 : Int.tmod w.turn 2 = Int.tmod r.turn 2 := by rw [ht]
 have mw : z58 p w true = false := by
  unfold z58;rw [dw, S.fw, decide_eq_false (by omega : ¬ w.turn < 0), decide_eq_true t1, decide_eq_false (by have := gw.us; omega : ¬ w.used < 0), hi]
  cases (Int.tmod w.turn 2 == 0) <;> cases p.late <;> rfl
 have mr : z58 p r false = false := by
  unfold z58;rw [dr, S.fr, decide_eq_false (by omega : ¬ r.turn < 0), decide_eq_true (by omega : r.turn < (p.turns.length : Int)), decide_eq_false (by have := gr.us; omega : ¬ r.used < 0), hi, l0]
  cases (Int.tmod r.turn 2 == 0) <;> cases p.late <;> rfl
 generalize hH : hdW p w c (z13 p w).length = h at *;have hs : (z2c h.s.sh h.s.ck h.s.n h.s.hs txt).length ≤ 316 := by
  rw [zbh]; cases h.s.sh with
  | true => simp only [cond_true]; omega
  | false => simp only [cond_false]; omega
 obtain ⟨j1, j2, j3⟩ := h2 (z2c h.s.sh h.s.ck h.s.n h.s.hs txt);generalize hG : hdR p r (h.out ++ z2c h.s.sh h.s.ck h.s.n h.s.hs txt) (z13 p w).length = g at *;obtain ⟨q1, q2, _⟩ := ztc (p := p) (b := h.out ++ z2c h.s.sh h.s.ck h.s.n h.s.hs txt) gr (z13 p w).length (by omega)
 rw [hG] at q1 q2;have LW : z1s p w c txt = ({ (zc0 txt h).s with turn := w.turn + 1 }, h.out ++ z2c h.s.sh h.s.ck h.s.n h.s.hs txt, 0) := by
  rw [zb6, zb8, mw, cond_false, z3m (by omega), cond_false, hH, h1]; rfl
 have LR : z2v p r (h.out ++ z2c h.s.sh h.s.ck h.s.n h.s.hs txt) = ({ g.s with n := symN g.s.sh g.s.n, hs := sumS (g.s.hs ++ z2c h.s.sh h.s.ck h.s.n h.s.hs txt), turn := r.turn + 1 }, txt, 0) := by
  rw [zaa, zc2, mr, cond_false, z3m (by rw [List.length_append]; omega), cond_false, tk, hG, j2, j1, ← j3.sh, ← j3.ck, ← j3.n, ← j3.hs, zrm, zqz]; rfl
 refine ⟨_, _, _, LW, LR, ?_, ?_, ?_, rfl, by show r.turn + 1 = _; rw [ht], ?_, ?_, ?_⟩
 ·exact ⟨j3.fw, j3.fr, j3.ow, j3.rw', j3.ps, j3.us, j3.un, j3.sh, j3.ck, by show symN _ _ = symN _ _; rw [j3.sh, j3.n], j3.ch, by show sumS (_ ++ _) = sumS (_ ++ _); rw [j3.hs], j3.ew, j3.er, j3.kw, j3.kr, j3.tw, j3.tr⟩
 ·have := zty (h := h) (m := m + (z13 p w).length) k1 (by omega) txt
  have := this.up (k := m + 8) (by omega)
  exact ⟨this.ck, this.ch, this.hs, this.own, this.fr, this.their, this.newest, this.sy, this.ps, this.us⟩
 ·have := q1.symN (by omega)
  refine OkS.up (m := m + (z13 p w).length + 1) ⟨q1.ck, q1.ch, z1g _, q1.own, q1.fr, q1.their, q1.newest, this, q1.ps, q1.us⟩ (by omega)
 ·exact k2.dead.trans dw
 ·exact q2.dead.trans dr
 ·exact k2.psks
def iJ (p : Pat) (j : Nat) : Bool := (j % 2 == 0) != p.late
theorem zzi (p : Pat) (j : Nat) : iJ p (j + 1) = !iJ p j := by
 unfold iJ;have : ((j + 1) % 2 == 0) = !(j % 2 == 0) := by
  rcases Nat.mod_two_eq_zero_or_one j with h | h
  ·rw [h, show (j + 1) % 2 = 1 by omega]; rfl
  ·rw [h, show (j + 1) % 2 = 0 by omega]; rfl
 rw [this];cases (j % 2 == 0) <;> cases p.late <;> rfl
theorem zuy (p : Pat) (j : Nat) : iJ p j = ((Int.tmod (j : Int) 2 == 0) != p.late) := by
 have h : Int.tmod (j : Int) 2 = ((j % 2 : Nat) : Int) := rfl;unfold iJ;rw [h];rcases Nat.mod_two_eq_zero_or_one j with h | h <;> rw [h] <;> rfl
def fl0 (p : Pat) : Fl := bif p.late then ⟨false, true, false, false, 0⟩ else ⟨false, false, p.pre1.contains 2, p.pre0.contains 2, 0⟩
def flT (p : Pat) : Nat → Option Fl
 | 0 => some (fl0 p)
 | j + 1 => (flT p j).bind fun f => (flK (iJ p j) p.psks.length f (p.turns.getD j []) (p.turns.getD j []).length).map Fl.swap
def flOk (p : Pat) : Bool := match flT p p.turns.length with
 | some f => bif p.base == [88, 88] then f.kw && f.kr else true
 | none => false
theorem zt2 {p : Pat} {j : Nat} {f : Fl} (h : flT p (j + 1) = some f) : ∃ g g', flT p j = some g ∧ flK (iJ p j) p.psks.length g (p.turns.getD j []) (p.turns.getD j []).length = some g' ∧ f = g'.swap := by
 rw [flT] at h;cases hk : flT p j with
 | none => rw [hk] at h; cases h
 | some g =>
  rw [hk] at h;rw [Option.bind_some] at h;cases hg : flK (iJ p j) p.psks.length g (p.turns.getD j []) (p.turns.getD j []).length with
  | none => rw [hg] at h; cases h
  | some g' =>
   rw [hg, Option.map_some, Option.some.injEq] at h;exact ⟨g, g', rfl, hg, h.symm⟩
theorem zm9 {p : Pat} : ∀ (k j : Nat) {f : Fl}, flT p (j + k) = some f → ∃ g, flT p j = some g
 | 0, _, f, h => ⟨f, h⟩
 | k + 1, j, _, h => by
  obtain ⟨g, _, h1, _⟩ := zt2 (j := j + k) h;exact zm9 k j h1
def stF (p : Pat) (x y : Sh) (c d : List UInt8) (txt : Nat → List UInt8) : Nat → Sh × Sh
 | 0 => (x, y)
 | j + 1 => bif iJ p j then ((z1s p (stF p x y c d txt j).1 c (txt j)).1, (z2v p (stF p x y c d txt j).2 (z1s p (stF p x y c d txt j).1 c (txt j)).2.1).1)
  else ((z2v p (stF p x y c d txt j).1 (z1s p (stF p x y c d txt j).2 d (txt j)).2.1).1, (z1s p (stF p x y c d txt j).2 d (txt j)).1)
def stS : Pat → Sh → Sh → List UInt8 → List UInt8 → (Nat → List UInt8) → Nat → Sh × Sh := (zf stF).val
theorem zja : stS = stF := by rw [stS, (zf stF).property]
structure Two (p : Pat) (a b c d : List UInt8) (j : Nat) (x y : Sh) : Prop where
 fl : ∃ f, flT p j = some f ∧ (iJ p j = true → Syn true a b c d f x y) ∧ (iJ p j = false → Syn false b a d c f y x)
 gx : OkS (8 * j) x
 gy : OkS (8 * j) y
 tx : x.turn = (j : Int)
 ty : y.turn = (j : Int)
 dx : x.dead = false
 dy : y.dead = false
 px : x.psks.length = p.psks.length
 py : y.psks.length = p.psks.length
theorem zw0 {p : Pat} {a b c d : List UInt8} {j : Nat} {x y : Sh} {txt : List UInt8} (la : a.length = 32) (lb : b.length = 32) (lc : c.length = 32) (ld : d.length = 32) (hp : (p.turns.all fun t => decide (t.length ≤ 7)) = true) (hj : j < p.turns.length) (hj2 : j < 100)
  (hf : (flT p (j + 1)).isSome = true) (hx : txt.length ≤ 300) (T : Two p a b c d j x y) :
  (iJ p j = true → ∃ x' y' msg, z1s p x c txt = (x', msg, 0) ∧ z2v p y msg = (y', txt, 0) ∧ Two p a b c d (j + 1) x' y' ∧ x'.sh = y'.sh ∧ x'.ck = y'.ck ∧ x'.n = y'.n ∧ x'.ch = y'.ch ∧ x'.hs = y'.hs) ∧
  (iJ p j = false → ∃ x' y' msg, z1s p y d txt = (y', msg, 0) ∧ z2v p x msg = (x', txt, 0) ∧ Two p a b c d (j + 1) x' y' ∧ y'.sh = x'.sh ∧ y'.ck = x'.ck ∧ y'.n = x'.n ∧ y'.ch = x'.ch ∧ y'.hs = x'.hs) := by
 obtain ⟨f, f1, f2, f3⟩ := T.fl;cases hf' : flT p (j + 1) with
 | none => rw [hf'] at hf; cases hf
 | some f' =>
 obtain ⟨g, g', g1, g2, rfl⟩ := zt2 hf';have : g = f := Option.some.inj (g1.symm.trans f1);subst this;have htoks : ∀ s : Sh, s.turn = (j : Int) → z13 p s = p.turns.getD j [] := fun s hs => by unfold z13; rw [hs]; rfl
 have hlen : (p.turns.getD j []).length ≤ 7 := by
  rw [List.getD_eq_getElem?_getD, List.getElem?_eq_getElem hj];have := List.all_eq_true.1 hp p.turns[j] (List.getElem_mem hj);simpa using this
 refine ⟨fun hi => ?_, fun hi => ?_⟩
 ·have S := f2 hi;obtain ⟨w', r', msg, h1, h2, h3, h4, h5, h6, h7, h8, h9, h10⟩ := zud (txt := txt) (p := p) la lb lc ld S T.gx T.gy (by omega) (T.tx.trans T.ty.symm) (by rw [T.tx]; omega) (by rw [T.tx]; omega) T.dx T.dy (by rw [T.tx, ← zuy]; exact hi.symm)
   (by rw [htoks x T.tx]; exact hlen) (by rw [htoks x T.tx, T.px, ← hi]; exact g2) hx
  refine ⟨w', r', msg, h1, h2, ⟨⟨g'.swap, hf', fun h => ?_, fun _ => h3.swap⟩, h4.up (by omega), h5.up (by omega), by rw [h6, T.tx]; rfl, by rw [h7, T.tx]; rfl, h8, h9, by rw [h10]; exact T.px, by rw [← h3.ps, h10]; exact T.px⟩, h3.sh, h3.ck, h3.n, h3.ch, h3.hs⟩
  rw [zzi, hi] at h; cases h
 ·have S := f3 hi;obtain ⟨w', r', msg, h1, h2, h3, h4, h5, h6, h7, h8, h9, h10⟩ := zud (txt := txt) (p := p) lb la ld lc S T.gy T.gx (by omega) (T.ty.trans T.tx.symm) (by rw [T.ty]; omega) (by rw [T.ty]; omega) T.dy T.dx (by rw [T.ty, ← zuy]; exact hi.symm)
   (by rw [htoks y T.ty]; exact hlen) (by rw [htoks y T.ty, T.py, ← hi]; exact g2) hx
  refine ⟨r', w', msg, h1, h2, ⟨⟨g'.swap, hf', fun _ => h3.swap, fun h => ?_⟩, h5.up (by omega), h4.up (by omega), by rw [h7, T.ty]; rfl, by rw [h6, T.ty]; rfl, h9, h8, by rw [← h3.ps, h10]; exact T.py, by rw [h10]; exact T.py⟩, h3.sh, h3.ck, h3.n, h3.ch, h3.hs⟩
  rw [zzi, hi] at h; cases h
theorem zzo {p : Pat} {a b c d : List UInt8} {x y : Sh} {txt : Nat → List UInt8} (la : a.length = 32) (lb : b.length = 32) (lc : c.length = 32) (ld : d.length = 32) (hp : (p.turns.all fun t => decide (t.length ≤ 7)) = true) (hn : p.turns.length ≤ 100)
  (hf : (flT p p.turns.length).isSome = true) (hx : ∀ j, j < p.turns.length → (txt j).length ≤ 300) (T : Two p a b c d 0 x y) : ∀ j, j ≤ p.turns.length → Two p a b c d j (stS p x y c d txt j).1 (stS p x y c d txt j).2
 | 0, _ => by rw [zja]; exact T
 | j + 1, hj => by
  have I := zzo la lb lc ld hp hn hf hx T j (by omega)
  have hf1 : (flT p (j + 1)).isSome = true := by
   cases hq : flT p p.turns.length with
   | none => rw [hq] at hf; cases hf
   | some q =>
    obtain ⟨g, hg⟩ := zm9 (p := p) (p.turns.length - (j + 1)) (j + 1) (f := q) (by rw [show j + 1 + (p.turns.length - (j + 1)) = p.turns.length by omega]; exact hq)
    rw [hg]; rfl
  obtain ⟨h1, h2⟩ := zw0 (txt := txt j) la lb lc ld hp (by omega) (by omega) hf1 (hx j (by omega)) I
  rw [zja] at h1 h2 ⊢;unfold stF;cases hi : iJ p j with
  | true =>
   obtain ⟨x', y', msg, e1, e2, e3, _⟩ := h1 hi;simp only [cond_true];rw [e1, e2]; exact e3
  | false =>
   obtain ⟨x', y', msg, e1, e2, e3, _⟩ := h2 hi;simp only [cond_false];rw [e1, e2]; exact e3
end Go.Proofs.YtehaohfglolljaaGreatDoor
namespace Go.Proofs.YtehaohfglolljaaGreatDoor
open Go Go.V Go.Pat Go.Fld Go.Pol Go.Cha Go.Bla
set_option maxRecDepth 100000
theorem z2p (s : List UInt8) : (zt s).length = 32 := by
 rw [zwq];unfold zng;cases h : ltB 32 s.length with
 | true => exact z1g s
 | false =>
  have := z3h h;rw [cond_false, List.length_append, List.length_take, List.length_drop, show zk.length = 32 from rfl]; omega
end Go.Proofs.YtehaohfglolljaaGreatDoor
namespace Go.Proofs.YtehaohfglolljaaGreatDoor
open Go Go.V Go.Pat Go.Fld Go.Pol Go.Cha Go.Bla Go.Shk
set_option maxRecDepth 100000
def z60 (p : Pat) (first : Bool) (pro own their : List UInt8) (knows : Bool) (early : List UInt8) (psks : List (List UInt8)) : Sh :=
 bif isC 3 p then ⟨first, 0, false, false, zk, 0, zt (z16 p), sumS (sumS (zt (z16 p) ++ pro) ++ bif first then zy early else early), own, bif first then early else zk, first, their, knows, bif first then zk else early, !first, psks, 0⟩
 else ⟨first, 0, false, false, zk, 0, zt (z16 p), (bif isC 2 p then sumS (sumS (sumS (zt (z16 p) ++ pro) ++ bif first then zy own else their) ++ bif first then their else zy own)
   else bif isC 1 p then sumS (sumS (zt (z16 p) ++ pro) ++ bif first then their else zy own) else sumS (zt (z16 p) ++ pro)), own, zk, false, their, knows, zk, false, psks, 0⟩
def z4g : Pat → Bool → List UInt8 → List UInt8 → List UInt8 → Bool → List UInt8 → List (List UInt8) → Sh := (zf z60).val
theorem z3z : z4g = z60 := by rw [z4g, (zf z60).property]
def zbp (p : Pat) (first knows : Bool) : Bool := bif isC 2 p then knows else bif isC 1 p then !first || knows else true
theorem zt9 {p : Pat} {c d : Nat} (hc : isC c p = true) (h : isC d p = true) : (preC c) = (preC d) := by
 simp only [isC, Bool.and_eq_true, beq_iff_eq] at hc h;exact Prod.ext (hc.1.symm.trans h.1) (hc.2.symm.trans h.2)
theorem z55 {c : Nat} {p : Pat} {s x : Sh} (hc : isC c p = true) (hx : x = s) :
  okOut (.ret (.tup [shV p x, .int .i64 0]) []) (.tup [.agg [.agg [.str p.base, .bool p.late, .vecr false 1 p.psks.length (intF p.psks), vL (preC c).1, vL (preC c).2, .vecr false 1 p.turns.length (trF p.turns)], .bool s.first, .int .i64 s.turn, .bool s.dead, .agg [.bool s.sh, .b8 32 s.ck, .u64 s.n, .b8 32 s.ch, .b8 32 s.hs], .b8 32 s.own, .b8 32 s.fr, .bool s.has, .b8 32 s.their, .bool s.knows, .b8 32 s.newest, .bool s.saw, .slv 0 32 s.psks.length (keyF s.psks), .int .i64 s.used], .int .i64 0]) [.tail 32 s.psks.length] := by
 subst hx;refine okOut.cold (v' := .tup [.agg [.agg [.str p.base, .bool p.late, .vecr false 1 p.psks.length (intF p.psks), vL (preC c).1, vL (preC c).2, .vecr false 1 p.turns.length (trF p.turns)], .bool x.first, .int .i64 x.turn, .bool x.dead, .agg [.bool x.sh, .b8 32 x.ck, .u64 x.n, .b8 32 x.ch, .b8 32 x.hs], .b8 32 x.own, .b8 32 x.fr, .bool x.has, .b8 32 x.their, .bool x.knows, .b8 32 x.newest, .bool x.saw, .vecr false 32 x.psks.length (keyF x.psks), .int .i64 x.used], .int .i64 0]) (u := []) rfl (z80 (z14 ?_ (z14 (leV.refl _) z3t))) rfl ⟨rfl, rfl⟩;simp only [isC, Bool.and_eq_true, beq_iff_eq] at hc;rw [← hc.1, ← hc.2];exact RLe.flat (l' := shC p x) (RLe.same (RLe.same (RLe.same (RLe.cons (Re.of (a := vL _) rfl (by simp [vL]) rfl rfl (by simp) (leV_vLI _)) (RLe.cons (Re.of (a := vL _) rfl (by simp [vL]) rfl rfl (by simp) (leV_vLI _)) (RLe.refl _))))))
theorem z104 {p : Pat} (hp : p ∈ z1q) : (z16 p).length ≤ 1000000 := by
 have : (zpr.all fun x => leB x.1.length 1000) = true := by kernel_rfl
 have := zh.1 (List.all_eq_true.1 this _ (zhl hp));have e : (z16 p, p).1 = z16 p := rfl;rw [e] at this; omega
def zs : List UInt8 := [0, 0, 0, 0, 0, 0, 0, 0, 0, 0, 0, 0, 0, 0, 0, 0, 0, 0, 0, 0, 0, 0, 0, 0, 0, 0, 0, 0, 0, 0, 0, 0]
theorem z99 : (zk == [0, 0, 0, 0, 0, 0, 0, 0, 0, 0, 0, 0, 0, 0, 0, 0, 0, 0, 0, 0, 0, 0, 0, 0, 0, 0, 0, 0, 0, 0, 0, 0]) = true := rfl
theorem zcc : (false == true) = false := rfl
theorem zc3 : (true == false) = false := rfl
theorem zhd : leB (32 + 32) 1000000 = true := rfl
theorem z1jn (p : Pat) (first fp : Bool) (pro own their : List UInt8) (knows : Bool) (early : List UInt8) (psks : List (List UInt8)) (hp : p ∈ z1q) (hpro : pro.length ≤ 200) (hps : psks.length = p.psks.length) (hkt : knows = true ∨ their = zk) (hk : zbp p first knows = true) (h3 : isC 3 p = true → psks = []) :
  HCall Tryz.E 6 [.str (z16 p), .bool first, .vec8 fp pro, .b8 32 own, .b8 32 their, .bool knows, .b8 32 early, .vecr false 32 psks.length (keyF psks)] (.ret (.tup [shV p (z4g p first pro own their knows early psks), .int .i64 0]) []) := by
 refine HCall.z1lj rfl rfl fun hlen => ?_
 have lo : own.length = 32 := hlen (.b8 32 own) (by simp)
 have lt : their.length = 32 := hlen (.b8 32 their) (by simp)
 have le : early.length = 32 := hlen (.b8 32 early) (by simp)
 have hp4 := zdf hp;have c1 : ltI 200 ((pro.length : Nat) : Int) = false := by rw [z1o]; exact decide_eq_false (by omega)
 have c2 : (((psks.length : Nat) : Int) != ((p.psks.length : Nat) : Int)) = false := by rw [hps]; exact bne_self_eq_false _
 have c3 : leB (z16 p).length 1000000 = true := zp (z104 hp);have c4 : leB (32 + pro.length) 1000000 = true := zp (by omega)
 have c5 : leB (psks.length * 32) 140737488355328 = true := zp (by omega)
 have hn := zcd hp;have hkt : knows = false → their = zk := fun h => hkt.resolve_left (by rw [h]; decide)
 have no : ∀ c d, isC c p = true → preC c ≠ preC d → isC d p = false := fun c d hc hd => Bool.not_eq_true _ ▸ fun h => hd (zt9 hc h)
 rcases cls hp with hc | hc | hc | hc
 ·have n3 := no 0 3 hc (by decide)
  have n2 := no 0 2 hc (by decide)
  have n1 := no 0 1 hc (by decide)
  refine HCall.z1li (R := RSh) (T := KB 0) (fun _ _ => .unroll 5) 6 rfl rfl ?_
  rw [z1gp];dsimp only;rw [hn];refine zd.2 ⟨zff.2 ⟨p, hp, rfl, hc⟩, ?_⟩;cases knows with
  | false =>
   obtain rfl := hkt rfl;simp only [c1, c2, c3, z2p, c4, c5, z99, Go.V.ite2_true, Go.V.ite2_false, z1r, cond_false, cond_true, Bool.not_true, Bool.not_false];refine z55 (x := z4g p first pro own zk false early psks) hc (s := ⟨first, 0, false, false, zk, 0, zt (z16 p), sumS (zt (z16 p) ++ pro), own, zk, false, zk, false, zk, false, psks, 0⟩) ?_;rw [z3z]; unfold z60; rw [n3, n2, n1]; rfl
  | true =>
   simp only [c1, c2, c3, z2p, c4, c5, z99, Go.V.ite2_true, Go.V.ite2_false, z1r, cond_false, cond_true, Bool.not_true, Bool.not_false];refine z55 (x := z4g p first pro own their true early psks) hc (s := ⟨first, 0, false, false, zk, 0, zt (z16 p), sumS (zt (z16 p) ++ pro), own, zk, false, their, true, zk, false, psks, 0⟩) ?_;rw [z3z]; unfold z60; rw [n3, n2, n1]; rfl
 ·have n3 := no 1 3 hc (by decide)
  have n2 := no 1 2 hc (by decide)
  refine HCall.z1li (R := RSh) (T := KB 1) (fun _ _ => .unroll 5) 6 rfl rfl ?_
  rw [z1gr];dsimp only;rw [hn];refine zd.2 ⟨zff.2 ⟨p, hp, rfl, hc⟩, ?_⟩;cases knows with
  | false =>
   obtain rfl := hkt rfl;cases first with
   | true =>
    unfold zbp at hk;rw [n2, hc] at hk;cases hk
   | false =>
    simp only [c1, c2, c3, z2p, z1g, z1v, zhd, lo, lt, le, c4, c5, z99, Go.V.ite2_true, Go.V.ite2_false, z1r, cond_false, cond_true, Bool.not_true, Bool.not_false, beq_self_eq_true, zcc, zc3];refine z55 (x := z4g p false pro own zk false early psks) hc (s := ⟨false, 0, false, false, zk, 0, zt (z16 p), sumS (sumS (zt (z16 p) ++ pro) ++ zy own), own, zk, false, zk, false, zk, false, psks, 0⟩) ?_;rw [z3z]; unfold z60; rw [n3, n2, hc]; rfl
  | true =>
   cases first with
   | true =>
    simp only [c1, c2, c3, z2p, z1g, z1v, zhd, lo, lt, le, c4, c5, z99, Go.V.ite2_true, Go.V.ite2_false, z1r, cond_false, cond_true, Bool.not_true, Bool.not_false, beq_self_eq_true, zcc, zc3];refine z55 (x := z4g p true pro own their true early psks) hc (s := ⟨true, 0, false, false, zk, 0, zt (z16 p), sumS (sumS (zt (z16 p) ++ pro) ++ their), own, zk, false, their, true, zk, false, psks, 0⟩) ?_;rw [z3z]; unfold z60; rw [n3, n2, hc]; rfl
   | false =>
    simp only [c1, c2, c3, z2p, z1g, z1v, zhd, lo, lt, le, c4, c5, z99, Go.V.ite2_true, Go.V.ite2_false, z1r, cond_false, cond_true, Bool.not_true, Bool.not_false, beq_self_eq_true, zcc, zc3];refine z55 (x := z4g p false pro own their true early psks) hc (s := ⟨false, 0, false, false, zk, 0, zt (z16 p), sumS (sumS (zt (z16 p) ++ pro) ++ zy own), own, zk, false, their, true, zk, false, psks, 0⟩) ?_;rw [z3z]; unfold z60; rw [n3, n2, hc]; rfl
 ·have n3 := no 2 3 hc (by decide)
  refine HCall.z1li (R := RSh) (T := KB 2) (fun _ _ => .unroll 5) 6 rfl rfl ?_
  rw [z1hc];dsimp only;rw [hn];refine zd.2 ⟨zff.2 ⟨p, hp, rfl, hc⟩, ?_⟩;cases knows with
  | false =>
   unfold zbp at hk;rw [hc] at hk;cases hk
  | true =>
   cases first with
   | true =>
    simp only [c1, c2, c3, z2p, z1g, z1v, zhd, lo, lt, le, c4, c5, z99, Go.V.ite2_true, Go.V.ite2_false, z1r, cond_false, cond_true, Bool.not_true, Bool.not_false, beq_self_eq_true, zcc, zc3];refine z55 (x := z4g p true pro own their true early psks) hc (s := ⟨true, 0, false, false, zk, 0, zt (z16 p), sumS (sumS (sumS (zt (z16 p) ++ pro) ++ zy own) ++ their), own, zk, false, their, true, zk, false, psks, 0⟩) ?_;rw [z3z]; unfold z60; rw [n3, hc]; rfl
   | false =>
    simp only [c1, c2, c3, z2p, z1g, z1v, zhd, lo, lt, le, c4, c5, z99, Go.V.ite2_true, Go.V.ite2_false, z1r, cond_false, cond_true, Bool.not_true, Bool.not_false, beq_self_eq_true, zcc, zc3];refine z55 (x := z4g p false pro own their true early psks) hc (s := ⟨false, 0, false, false, zk, 0, zt (z16 p), sumS (sumS (sumS (zt (z16 p) ++ pro) ++ their) ++ zy own), own, zk, false, their, true, zk, false, psks, 0⟩) ?_;rw [z3z]; unfold z60; rw [n3, hc]; rfl
 ·obtain rfl := h3 hc;have c0 : ltI 0 (((([] : List (List UInt8)).length : Nat)) : Int) = false := rfl;refine HCall.z1li (R := RSh) (T := KB 3) (fun _ _ => .unroll 5) 6 rfl rfl ?_
  rw [z1f7];dsimp only;rw [hn];refine zd.2 ⟨zff.2 ⟨p, hp, rfl, hc⟩, ?_⟩;cases knows with
  | false =>
   obtain rfl := hkt rfl;cases first with
   | true =>
    simp only [c0, c1, c2, c3, z2p, z1g, z1v, zhd, lo, lt, le, c4, c5, z99, Go.V.ite2_true, Go.V.ite2_false, z1r, cond_false, cond_true, Bool.not_true, Bool.not_false, beq_self_eq_true, zcc, zc3];refine z55 (x := z4g p true pro own zk false early []) hc (s := ⟨true, 0, false, false, zk, 0, zt (z16 p), sumS (sumS (zt (z16 p) ++ pro) ++ zy early), own, early, true, zk, false, zk, false, [], 0⟩) ?_;rw [z3z]; unfold z60; rw [hc]; rfl
   | false =>
    simp only [c0, c1, c2, c3, z2p, z1g, z1v, zhd, lo, lt, le, c4, c5, z99, Go.V.ite2_true, Go.V.ite2_false, z1r, cond_false, cond_true, Bool.not_true, Bool.not_false, beq_self_eq_true, zcc, zc3];refine z55 (x := z4g p false pro own zk false early []) hc (s := ⟨false, 0, false, false, zk, 0, zt (z16 p), sumS (sumS (zt (z16 p) ++ pro) ++ early), own, zk, false, zk, false, early, true, [], 0⟩) ?_;rw [z3z]; unfold z60; rw [hc]; rfl
  | true =>
   cases first with
   | true =>
    simp only [c0, c1, c2, c3, z2p, z1g, z1v, zhd, lo, lt, le, c4, c5, z99, Go.V.ite2_true, Go.V.ite2_false, z1r, cond_false, cond_true, Bool.not_true, Bool.not_false, beq_self_eq_true, zcc, zc3];refine z55 (x := z4g p true pro own their true early []) hc (s := ⟨true, 0, false, false, zk, 0, zt (z16 p), sumS (sumS (zt (z16 p) ++ pro) ++ zy early), own, early, true, their, true, zk, false, [], 0⟩) ?_;rw [z3z]; unfold z60; rw [hc]; rfl
   | false =>
    simp only [c0, c1, c2, c3, z2p, z1g, z1v, zhd, lo, lt, le, c4, c5, z99, Go.V.ite2_true, Go.V.ite2_false, z1r, cond_false, cond_true, Bool.not_true, Bool.not_false, beq_self_eq_true, zcc, zc3];refine z55 (x := z4g p false pro own their true early []) hc (s := ⟨false, 0, false, false, zk, 0, zt (z16 p), sumS (sumS (zt (z16 p) ++ pro) ++ early), own, zk, false, their, true, early, true, [], 0⟩) ?_;rw [z3z]; unfold z60; rw [hc]; rfl
def z1bk (m : Nat) (c : List AV) : Bool := yes (∃ p s, p ∈ z1q ∧ s.psks.length = p.psks.length ∧ OkS m s ∧ c = shC p s)
def z8n : Nat → List AV → Bool := (zf z1bk).val
theorem zh7 {m : Nat} {c : List AV} : z8n m c = true ↔ ∃ p s, p ∈ z1q ∧ s.psks.length = p.psks.length ∧ OkS m s ∧ c = shC p s := by rw [z8n, (zf z1bk).property]; exact z8y
theorem zon {m : Nat} {p : Pat} {s : Sh} (hp : p ∈ z1q) (hl : s.psks.length = p.psks.length) (g : OkS m s) : z8n m (shC p s) = true := zh7.2 ⟨p, s, hp, hl, g, rfl⟩
def zar (n : Nat) (f : Nat → List AV) : List (List UInt8) := @dite _ (∃ l : List (List UInt8), l.length = n ∧ keyF l = f) (Classical.propDecidable _) (fun h => Classical.choose h) (fun _ => [])
theorem zdg (l : List (List UInt8)) : zar l.length (keyF l) = l := by
 have h : ∃ l' : List (List UInt8), l'.length = l.length ∧ keyF l' = keyF l := ⟨l, rfl, rfl⟩;unfold zar;rw [dif_pos h];have := Classical.choose_spec h;exact zwn this.1 this.2
def ksO (q : AV) : Option (Nat × (Nat → List AV)) := match q with
 | .vecr false 32 n f => some (n, f)
 | .vec _ 32 [] => some (0, keyF [])
 | .vec8 true [] => some (0, keyF [])
 | _ => none
theorem z1il {q : AV} {n : Nat} {f : Nat → List AV} (h : ksO q = some (n, f)) : leV q (.vecr false 32 n f) ∧ z1b q = true := by
 unfold ksO at h
 split at h
 ·obtain ⟨rfl, rfl⟩ := spE h;exact ⟨leV.refl _, rfl⟩
 ·obtain ⟨rfl, rfl⟩ := spE h;exact ⟨(zq8 (rows := []) fun i h => absurd h (Nat.not_lt_zero i)).trans (z6d (fun h => by cases h) fun x hx => absurd hx (Nat.not_lt_zero x)), rfl⟩
 ·obtain ⟨rfl, rfl⟩ := spE h;exact ⟨zfa rfl, rfl⟩
 ·cases h
def z1bh (s : List UInt8) (first : Bool) (pro their : List UInt8) (knows : Bool) (n : Nat) (f : Nat → List AV) : Bool :=
 yes (∃ p l, p ∈ z1q ∧ z16 p = s ∧ pro.length ≤ 200 ∧ l.length = n ∧ keyF l = f ∧ l.length = p.psks.length ∧ (knows = true ∨ their = zk) ∧ zbp p first knows = true ∧ (isC 3 p = true → l = []))
def zpw : List UInt8 → Bool → List UInt8 → List UInt8 → Bool → Nat → (Nat → List AV) → Bool := (zf z1bh).val
theorem zvk {s : List UInt8} {first : Bool} {pro their : List UInt8} {knows : Bool} {n : Nat} {f : Nat → List AV} : zpw s first pro their knows n f = true ↔ ∃ p l, p ∈ z1q ∧ z16 p = s ∧ pro.length ≤ 200 ∧ l.length = n ∧ keyF l = f ∧ l.length = p.psks.length ∧ (knows = true ∨ their = zk) ∧ zbp p first knows = true ∧ (isC 3 p = true → l = []) := by rw [zpw, (zf z1bh).property]; exact z8y
def F4 : Ctr Tryz.E := (((Ctr.nil Tryz.E).add 10 (fun
  | [.agg l, .vec8 _ b] => some (z8n 1000 (flL l), z7y (z1m (flL l)).1 (z2v (z1m (flL l)).1 (z1m (flL l)).2 b))
  | _ => none) (by
   intro args pre out h hp
   split at h
   ·rename_i l fb b;obtain ⟨rfl, rfl⟩ := spE h;obtain ⟨p, s, h1, h2, h3, h4⟩ := zh7.1 hp;rw [h4, z7t];have hl : leV (.agg l) (shV p s) := by
     have := z42 l;rw [h4] at this; exact this
    have hpl : zw [AV.agg l, .vec8 fb b] = true := by
     show (zw l && true) = true;rw [← z53, h4]; rfl
    exact HCall.args (rd_c p s fb b h1 h2 h3) hpl (z14 hl fun _ _ _ _ h => h)
   ·simp at h)).add 8 (fun
  | [.agg l, .b8 32 k, .vec8 _ b] => some (z8n 1000 (flL l), z7y (z1m (flL l)).1 (z1s (z1m (flL l)).1 (z1m (flL l)).2 k b))
  | _ => none) (by
   intro args pre out h hp
   split at h
   ·rename_i l k fb b;obtain ⟨rfl, rfl⟩ := spE h;obtain ⟨p, s, h1, h2, h3, h4⟩ := zh7.1 hp;rw [h4, z7t];have hl : leV (.agg l) (shV p s) := by
     have := z42 l;rw [h4] at this; exact this
    have hpl : zw [AV.agg l, .b8 32 k, .vec8 fb b] = true := by
     show (zw l && true) = true;rw [← z53, h4]; rfl
    exact HCall.args (wr_c p s fb k b h1 h2 h3) hpl (z14 hl fun _ _ _ _ h => h)
   ·simp at h)).add 6 (fun
  | [.str s, .bool first, .vec8 _ pro, .b8 32 own, .b8 32 their, .bool knows, .b8 32 early, q] => match ksO q with
   | some (n, f) => some (zpw s first pro their knows n f, .ret (.tup [shV (zz s) (z4g (zz s) first pro own their knows early (zar n f)), .int .i64 0]) [])
   | none => none
  | _ => none) (by
   intro args pre out h hp
   split at h
   ·rename_i s first fp pro own their knows early q
    split at h
    ·rename_i n f hq;obtain ⟨rfl, rfl⟩ := spE h;obtain ⟨p, l, h1, rfl, h3, rfl, rfl, h6, h7, h8, h9⟩ := zvk.1 hp;rw [zcd h1, zdg];obtain ⟨q1, q2⟩ := z1il hq;refine HCall.args (z1jn p first fp pro own their knows early l h1 h3 h6 h7 h8 h9) (by show (z1b q && true) = true; rw [q2]; rfl) ?_
     exact z14 (leV.refl _) (z14 (leV.refl _) (z14 (leV.refl _) (z14 (leV.refl _) (z14 (leV.refl _) (z14 (leV.refl _) (z14 (leV.refl _) (z14 q1 z3t)))))))
    ·simp at h
   ·simp at h)
def KM : Ctr Tryz.E := Ctr.or F4 (Ctr.or Ucut (Ctr.or M1 Y4))
def goR : List AV → List UInt8 → Bool := (zf fun c b => z8n 1000 c && (z2v (z1m c).1 (z1m c).2 b).2.2 == 0).val
theorem z15w (c : List AV) (b : List UInt8) : goR c b = (z8n 1000 c && (z2v (z1m c).1 (z1m c).2 b).2.2 == 0) := by rw [goR, (zf fun c b => z8n 1000 c && (z2v (z1m c).1 (z1m c).2 b).2.2 == 0).property]
def goW : List AV → List UInt8 → List UInt8 → Bool := (zf fun c k b => z8n 1000 c && (z1s (z1m c).1 (z1m c).2 k b).2.2 == 0).val
theorem z13p (c : List AV) (k b : List UInt8) : goW c k b = (z8n 1000 c && (z1s (z1m c).1 (z1m c).2 k b).2.2 == 0) := by rw [goW, (zf fun c k b => z8n 1000 c && (z1s (z1m c).1 (z1m c).2 k b).2.2 == 0).property]
def zhf : List AV → Pat := (zf fun c => (z1m c).1).val
theorem zpy (c : List AV) : zhf c = (z1m c).1 := by rw [zhf, (zf fun c => (z1m c).1).property]
def rdX : List AV → List UInt8 → Sh × List UInt8 := (zf fun c b => ((z2v (z1m c).1 (z1m c).2 b).1, (z2v (z1m c).1 (z1m c).2 b).2.1)).val
theorem z16k (c : List AV) (b : List UInt8) : rdX c b = ((z2v (z1m c).1 (z1m c).2 b).1, (z2v (z1m c).1 (z1m c).2 b).2.1) := by rw [rdX, (zf fun c b => ((z2v (z1m c).1 (z1m c).2 b).1, (z2v (z1m c).1 (z1m c).2 b).2.1)).property]
def wrX : List AV → List UInt8 → List UInt8 → Sh × List UInt8 := (zf fun c k b => ((z1s (z1m c).1 (z1m c).2 k b).1, (z1s (z1m c).1 (z1m c).2 k b).2.1)).val
theorem z172 (c : List AV) (k b : List UInt8) : wrX c k b = ((z1s (z1m c).1 (z1m c).2 k b).1, (z1s (z1m c).1 (z1m c).2 k b).2.1) := by rw [wrX, (zf fun c k b => ((z1s (z1m c).1 (z1m c).2 k b).1, (z1s (z1m c).1 (z1m c).2 k b).2.1)).property]
def goD : List AV → Bool := (zf fun c => z8n 1000 c && (!(z1m c).2.dead && decide (((z1m c).1.turns.length : Int) ≤ (z1m c).2.turn))).val
theorem z13m (c : List AV) : goD c = (z8n 1000 c && (!(z1m c).2.dead && decide (((z1m c).1.turns.length : Int) ≤ (z1m c).2.turn))) := by rw [goD, (zf fun c => z8n 1000 c && (!(z1m c).2.dead && decide (((z1m c).1.turns.length : Int) ≤ (z1m c).2.turn))).property]
theorem z1in (p : Pat) (s : Sh) (K : AV → Heap → Prop) : walk Tryz.E RSh (Ctr.nil Tryz.E).C (fun _ _ => .unroll 5) 3 15 [shV p s] K =
  (za (!s.dead) (K (.bool (!ltI s.turn (p.turns.length : Nat))) []) (K (.bool false) [])) := by kernel_rfl
theorem z1g1 (p : Pat) (s : Sh) (h1 : s.dead = false) (h2 : (p.turns.length : Int) ≤ s.turn) : HCall Tryz.E 15 [shV p s] (.ret (.bool true) []) := by
 refine HCall.z1lg (R := RSh) (T := Ctr.nil Tryz.E) (fun _ _ => .unroll 5) 3 rfl rfl ?_
 rw [z1in, h1, z1o, decide_eq_false (by omega)]
 exact ⟨rfl, rfl⟩
theorem zub {m : Nat} {l : List AV} (hp : z8n m (flL l) = true) : ∃ p s, p ∈ z1q ∧ s.psks.length = p.psks.length ∧ OkS m s ∧ z1m (flL l) = (p, s) ∧ leV (.agg l) (shV p s) ∧ zw [AV.agg l] = true := by
 obtain ⟨p, s, h1, h2, h3, h4⟩ := zh7.1 hp;refine ⟨p, s, h1, h2, h3, by rw [h4, z7t], ?_, ?_⟩
 ·have := z42 l;rw [h4] at this; exact this
 ·show (zw l && true) = true;rw [← z53, h4]; rfl
def F5 : Ctr Tryz.E := (((Ctr.nil Tryz.E).add 10 (fun
  | [.agg l, .vec8 _ b] => some (goR (flL l) b, .ret (.tup [shV (zhf (flL l)) (rdX (flL l) b).1, .vec8 false (rdX (flL l) b).2, .int .i64 0]) [])
  | _ => none) (by
   intro args pre out h hp
   split at h
   ·rename_i l fb b;obtain ⟨rfl, rfl⟩ := spE h;rw [z15w, Bool.and_eq_true, beq_iff_eq] at hp;obtain ⟨p, s, h1, h2, h3, h4, h5, h6⟩ := zub hp.1;rw [zpy, z16k];rw [h4] at hp ⊢;have := HCall.args (rd_c p s fb b h1 h2 h3) (l' := [.agg l, .vec8 fb b]) h6 (z14 h5 fun _ _ _ _ h => h)
    unfold z7y at this;rw [hp.2] at this; exact this
   ·simp at h)).add 8 (fun
  | [.agg l, .b8 32 k, .vec8 _ b] => some (goW (flL l) k b, .ret (.tup [shV (zhf (flL l)) (wrX (flL l) k b).1, .vec8 false (wrX (flL l) k b).2, .int .i64 0]) [])
  | _ => none) (by
   intro args pre out h hp
   split at h
   ·rename_i l k fb b;obtain ⟨rfl, rfl⟩ := spE h;rw [z13p, Bool.and_eq_true, beq_iff_eq] at hp;obtain ⟨p, s, h1, h2, h3, h4, h5, h6⟩ := zub hp.1;rw [zpy, z172];rw [h4] at hp ⊢;have := HCall.args (wr_c p s fb k b h1 h2 h3) (l' := [.agg l, .b8 32 k, .vec8 fb b]) h6 (z14 h5 fun _ _ _ _ h => h)
    unfold z7y at this;rw [hp.2] at this; exact this
   ·simp at h)).add 15 (fun
  | [.agg l] => some (goD (flL l), .ret (.bool true) [])
  | _ => none) (by
   intro args pre out h hp
   split at h
   ·rename_i l;obtain ⟨rfl, rfl⟩ := spE h;rw [z13m, Bool.and_eq_true, Bool.and_eq_true, Bool.not_eq_true', decide_eq_true_eq] at hp;obtain ⟨p, s, h1, h2, h3, h4, h5, h6⟩ := zub hp.1;rw [h4] at hp;exact HCall.args (z1g1 p s hp.2.1 hp.2.2) h6 (z14 h5 z3t)
   ·simp at h)
def KN : Ctr Tryz.E := Ctr.or F5 KM
set_option maxHeartbeats 0
theorem z1fj (k : Int) (K : AV → Heap → Prop) : walk Tryz.E RSh zef.C (fun _ _ => .unroll 6) 3 14 [.int .i64 k, .int .i64 0] K = (
 K (.vec8 true []) []) := by kernel_rfl
theorem z1ev (k : Int) (K : AV → Heap → Prop) : walk Tryz.E RSh zef.C (fun _ _ => .unroll 6) 3 14 [.int .i64 k, .int .i64 1] K = (
 K (.sl 0 0 32 1) [Ent.grow 32 [.b8 32 (Pin.keyS (wr .i64 (k + 0)))] []]) := by kernel_rfl
theorem z1i6 (k : Int) (K : AV → Heap → Prop) : walk Tryz.E RSh zef.C (fun _ _ => .unroll 6) 3 14 [.int .i64 k, .int .i64 2] K = (
 K (.sl 0 0 32 (1 + 1)) [Ent.grow 32 [.b8 32 (Pin.keyS (wr .i64 (k + 0))), .b8 32 (Pin.keyS (wr .i64 (k + 1)))] []]) := by kernel_rfl
theorem z1fx (k : Int) (K : AV → Heap → Prop) : walk Tryz.E RSh zef.C (fun _ _ => .unroll 6) 3 14 [.int .i64 k, .int .i64 3] K = (
 K (.sl 0 0 32 ((1 + 1) + 1)) [Ent.grow 32 [.b8 32 (Pin.keyS (wr .i64 (k + 0))), .b8 32 (Pin.keyS (wr .i64 (k + 1))), .b8 32 (Pin.keyS (wr .i64 (k + 2)))] []]) := by kernel_rfl
theorem z1g4 (k : Int) (K : AV → Heap → Prop) : walk Tryz.E RSh zef.C (fun _ _ => .unroll 6) 3 14 [.int .i64 k, .int .i64 4] K = (
 K (.sl 0 0 32 (((1 + 1) + 1) + 1)) [Ent.grow 32 [.b8 32 (Pin.keyS (wr .i64 (k + 0))), .b8 32 (Pin.keyS (wr .i64 (k + 1))), .b8 32 (Pin.keyS (wr .i64 (k + 2))), .b8 32 (Pin.keyS (wr .i64 (k + 3)))] []]) := by kernel_rfl
theorem rows0 : zar 0 (keyF []) = [] := zdg []
theorem zk3 (p : Pat) (s : Sh) : zhf (shC p s) = p := by rw [zpy, z7t]
theorem z13j (p : Pat) (s : Sh) (k b : List UInt8) : wrX (shC p s) k b = ((z1s p s k b).1, (z1s p s k b).2.1) := by rw [z172, z7t]
theorem z14j (p : Pat) (s : Sh) (b : List UInt8) : rdX (shC p s) b = ((z2v p s b).1, (z2v p s b).2.1) := by rw [z16k, z7t]
theorem z15f {p : Pat} {s : Sh} {k b : List UInt8} {m : Nat} (hp : p ∈ z1q) (hl : s.psks.length = p.psks.length) (g : OkS m s) (hm : m ≤ 1000) (h : (z1s p s k b).2.2 = 0) : goW (shC p s) k b = true := by
 rw [z13p, z7t, zon hp hl (g.up hm), h]; rfl
theorem z13r {p : Pat} {s : Sh} {b : List UInt8} {m : Nat} (hp : p ∈ z1q) (hl : s.psks.length = p.psks.length) (g : OkS m s) (hm : m ≤ 1000) (h : (z2v p s b).2.2 = 0) : goR (shC p s) b = true := by
 rw [z15w, z7t, zon hp hl (g.up hm), h]; rfl
theorem z13l {p : Pat} {s : Sh} {m : Nat} (hp : p ∈ z1q) (hl : s.psks.length = p.psks.length) (g : OkS m s) (hm : m ≤ 1000) (h1 : s.dead = false) (h2 : (p.turns.length : Int) ≤ s.turn) : goD (shC p s) = true := by
 rw [z13m, z7t, zon hp hl (g.up hm), h1, decide_eq_true h2]; rfl
end Go.Proofs.YtehaohfglolljaaGreatDoor
namespace Go.Proofs.YtehaohfglolljaaGreatDoor
open Go Go.V Go.Pat Go.Fld Go.Pol Go.Cha Go.Bla Go.Shk Go.Pin Go.Tm
set_option maxRecDepth 100000
def z5b (k : Int) (m : Nat) : List (List UInt8) := (List.range m).map fun i => keyS (wr .i64 (k + (i : Nat)))
def z4r : Int → Nat → List (List UInt8) := (zf z5b).val
theorem zvx : z4r = z5b := by rw [z4r, (zf z5b).property]
theorem z1id (k : Int) (m : Nat) (hm : m ≤ 4) : HCall Tryz.E 14 [.int .i64 k, .int .i64 (m : Nat)] (.ret (vKs (z4r k m)) []) := by
 rw [zvx]
 match m, hm with
 | 0, _ =>
  show HCall Tryz.E 14 [.int .i64 k, .int .i64 0] (.ret (vKs (z5b k 0)) []);refine HCall.z1li (R := RSh) (T := zef) (fun _ _ => .unroll 6) 3 rfl rfl ?_
  rw [z1fj];exact (okOut.cold (v' := .vec8 true []) (u := []) rfl (zfa rfl) rfl ⟨rfl, rfl⟩)
 | 1, _ =>
  show HCall Tryz.E 14 [.int .i64 k, .int .i64 1] (.ret (vKs (z5b k 1)) []);refine HCall.z1li (R := RSh) (T := zef) (fun _ _ => .unroll 6) 3 rfl rfl ?_
  rw [z1ev];exact (okOut.cold (v' := vK (z5b k 1)) (u := [(0, .grow 32 ((z5b k 1).map fun x => .b8 32 x) [(0, 32)])]) rfl (zj4 _) rfl ⟨rfl, rfl⟩)
 | 2, _ =>
  show HCall Tryz.E 14 [.int .i64 k, .int .i64 2] (.ret (vKs (z5b k 2)) []);refine HCall.z1li (R := RSh) (T := zef) (fun _ _ => .unroll 6) 3 rfl rfl ?_
  rw [z1i6];exact (okOut.cold (v' := vK (z5b k 2)) (u := [(0, .grow 32 ((z5b k 2).map fun x => .b8 32 x) [(0, 64)])]) rfl (zj4 _) rfl ⟨rfl, rfl⟩)
 | 3, _ =>
  show HCall Tryz.E 14 [.int .i64 k, .int .i64 3] (.ret (vKs (z5b k 3)) []);refine HCall.z1li (R := RSh) (T := zef) (fun _ _ => .unroll 6) 3 rfl rfl ?_
  rw [z1fx];exact (okOut.cold (v' := vK (z5b k 3)) (u := [(0, .grow 32 ((z5b k 3).map fun x => .b8 32 x) [(0, 96)])]) rfl (zj4 _) rfl ⟨rfl, rfl⟩)
 | 4, _ =>
  show HCall Tryz.E 14 [.int .i64 k, .int .i64 4] (.ret (vKs (z5b k 4)) []);refine HCall.z1li (R := RSh) (T := zef) (fun _ _ => .unroll 6) 3 rfl rfl ?_
  rw [z1g4];exact (okOut.cold (v' := vK (z5b k 4)) (u := [(0, .grow 32 ((z5b k 4).map fun x => .b8 32 x) [(0, 128)])]) rfl (zj4 _) rfl ⟨rfl, rfl⟩)
def isMF (c : Nat) (l : List AV) : Bool := yes (∃ p ∈ z1q, isC c p = true ∧ l = flL [z3a c p])
def isM : Nat → List AV → Bool := (zf isMF).val
theorem zkq {c : Nat} {l : List AV} : isM c l = true ↔ ∃ p ∈ z1q, isC c p = true ∧ l = flL [z3a c p] := by rw [isM, (zf isMF).property]; exact z8y
def z73 (c : Nat) (l : List AV) : Pat := @dite _ (∃ p : Pat, isC c p = true ∧ l = flL [z3a c p]) (Classical.propDecidable _) (fun h => Classical.choose h) (fun _ => default)
theorem zct {c : Nat} {p : Pat} (hc : isC c p = true) : z73 c (flL [z3a c p]) = p := by
 have h : ∃ q : Pat, isC c q = true ∧ flL [z3a c p] = flL [z3a c q] := ⟨p, hc, rfl⟩;unfold z73;rw [dif_pos h];obtain ⟨h1, h2⟩ := Classical.choose_spec h;generalize Classical.choose h = q at h1 h2;have e : [AV.str p.base, .bool p.late, .vecr false 1 p.psks.length (intF p.psks), vL (preC c).1, vL (preC c).2, .vecr false 1 p.turns.length (trF p.turns)] = [AV.str q.base, .bool q.late, .vecr false 1 q.psks.length (intF q.psks), vL (preC c).1, vL (preC c).2, .vecr false 1 q.turns.length (trF q.turns)] := h2;simp only [List.cons.injEq, AV.str.injEq, AV.bool.injEq, AV.vecr.injEq, true_and, and_true] at e;obtain ⟨e1, e2, ⟨a1, a2⟩, d1, d2⟩ := e;simp only [isC, Bool.and_eq_true, beq_iff_eq] at h1 hc;cases p; cases q
 simp only at *;rw [e1, e2, Shk.intF_inj a1 a2, Shk.trF_inj d1 d2, hc.1, hc.2, h1.1, h1.2]
theorem z1ie {c : Nat} {p : Pat} (hc : isC c p = true) : leV (z3a c p) (z9w p) := by
 simp only [isC, Bool.and_eq_true, beq_iff_eq] at hc;refine leV_cells ?_;unfold zpk;rw [hc.1, hc.2];exact RLe.same (RLe.same (RLe.same (RLe.cons (Re.of (a := vL _) rfl (by simp [vL]) rfl rfl (by simp) (leV_vLI _)) (RLe.cons (Re.of (a := vL _) rfl (by simp [vL]) rfl rfl (by simp) (leV_vLI _)) (RLe.refl _)))))
theorem z14q {p : Pat} (h : p ∈ zia) : p ∈ z1q := by
 have : (zia.all fun p => z1q.contains p) = true := by kernel_rfl
 exact List.contains_iff_mem.1 (List.all_eq_true.1 this p h)
def PM (c : Nat) : Ctr Tryz.E := (((Ctr.nil Tryz.E).add 12 (fun
  | [.int .i64 n, .int .i64 mask] => some (isC c (z4t n mask), .ret (.tup [z3a c (z4t n mask), .bool true]) [])
  | _ => none) (by
   intro args pre out h hp
   split at h
   ·obtain ⟨rfl, rfl⟩ := spE h;exact HCall.weak (zwx _ _) (z80 (z14 (zvr hp) (z14 (leV.refl _) z3t))) (z3p _ (by show zw _ = true; rw [zw, zdv]; rfl) _)
   ·simp at h)).add 33 (fun
  | [.agg l] => some (isM c (flL l), .ret (.tup [.str (z16 (z73 c (flL l))), .int .i64 0]) [])
  | _ => none) (by
   intro args pre out h hp
   split at h
   ·rename_i l;obtain ⟨rfl, rfl⟩ := spE h;obtain ⟨p, h1, h2, h3⟩ := zkq.1 hp;rw [h3, zct h2];have hl : leV (.agg l) (z3a c p) := by
     have := z42 l;rw [h3] at this; exact this
    have hpl : zw [AV.agg l] = true := by
     show (zw l && true) = true;rw [← z53, h3, z53];show (z1b (z3a c p) && true && true) = true;rw [zdv]; rfl
    exact HCall.args (z1if p h1) hpl (z14 (hl.trans ((z1ie h2).trans (zgg p))) z3t)
   ·simp at h)).add 14 (fun
  | [.int .i64 k, .int .i64 m] => some (decide (0 ≤ m) && decide (m ≤ 4), .ret (vKs (z4r k m.toNat)) [])
  | _ => none) (by
   intro args pre out h hp
   split at h
   ·rename_i k m;obtain ⟨rfl, rfl⟩ := spE h;rw [Bool.and_eq_true, decide_eq_true_eq, decide_eq_true_eq] at hp;have := z1id k m.toNat (by omega)
    rwa [Int.toNat_of_nonneg hp.1] at this
   ·simp at h)
def KX (c : Nat) : Ctr Tryz.E := Ctr.or (PM c) (Ctr.or KN z1d1)
def twX (p : Pat) (a b pro : List UInt8) (psks : List (List UInt8)) : Sh := bif isC 0 p then z4g p true pro a zs false zs psks else z4g p true pro a (zy b) true zs psks
def twY (p : Pat) (a b pro : List UInt8) (psks : List (List UInt8)) : Sh := bif isC 2 p then z4g p false pro b (zy a) true zs psks else z4g p false pro b zs false zs psks
theorem z5y {p : Pat} {c d : Nat} (hc : isC c p = true) (h : preC c ≠ preC d) : isC d p = false := Bool.not_eq_true _ ▸ fun g => h (zt9 hc g)
def twW (c : Nat) (p : Pat) (a b : List UInt8) (m : Nat) (f : Nat → List AV) (pro k1 k2 : List UInt8) (y1 y2 : Bool) (K : AV → Heap → Prop) : Prop :=
 cnd (isM c (flL [z3a c p])) (cnd (zpw (z16 (z73 c (flL [z3a c p]))) true pro k1 y1 m f) (cnd (zpw (z16 (z73 c (flL [z3a c p]))) false pro k2 y2 m f)
  (K (.tup [shV (zz (z16 (z73 c (flL [z3a c p])))) (z4g (zz (z16 (z73 c (flL [z3a c p])))) true pro a k1 y1 zs (zar m f)), shV (zz (z16 (z73 c (flL [z3a c p])))) (z4g (zz (z16 (z73 c (flL [z3a c p])))) false pro b k2 y2 zs (zar m f)), .bool true]) [])))
theorem z1it (p : Pat) (a b c d : List UInt8) (m : Nat) (f : Nat → List AV) (fp : Bool) (pro : List UInt8) (K : AV → Heap → Prop) : walk Tryz.E RSh (KX 0).C (fun _ _ => .unroll 6) 6 13 [z3a 0 p, .agg [.b8 32 a, .b8 32 c], .agg [.b8 32 b, .b8 32 d], .vecr false 32 m f, .vec8 fp pro] K = twW 0 p a b m f pro zs zs false false K := by kernel_rfl
theorem z1j1 (p : Pat) (a b c d : List UInt8) (m : Nat) (f : Nat → List AV) (fp : Bool) (pro : List UInt8) (K : AV → Heap → Prop) : walk Tryz.E RSh (KX 1).C (fun _ _ => .unroll 6) 6 13 [z3a 1 p, .agg [.b8 32 a, .b8 32 c], .agg [.b8 32 b, .b8 32 d], .vecr false 32 m f, .vec8 fp pro] K = twW 1 p a b m f pro (zy b) zs true false K := by kernel_rfl
theorem z1jf (p : Pat) (a b c d : List UInt8) (m : Nat) (f : Nat → List AV) (fp : Bool) (pro : List UInt8) (K : AV → Heap → Prop) : walk Tryz.E RSh (KX 2).C (fun _ _ => .unroll 6) 6 13 [z3a 2 p, .agg [.b8 32 a, .b8 32 c], .agg [.b8 32 b, .b8 32 d], .vecr false 32 m f, .vec8 fp pro] K = twW 2 p a b m f pro (zy b) (zy a) true true K := by kernel_rfl
theorem z1kj (p : Pat) (hp : p ∈ z1q) (c : Nat) (h3 : c < 3) (hc : isC c p = true) (a b x y : List UInt8) (psks : List (List UInt8)) (fp : Bool) (pro : List UInt8) (hpro : pro.length ≤ 200) (hps : psks.length = p.psks.length) :
  HCall Tryz.E 13 [z3a c p, .agg [.b8 32 a, .b8 32 x], .agg [.b8 32 b, .b8 32 y], .vecr false 32 psks.length (keyF psks), .vec8 fp pro] (.ret (.tup [shV p (twX p a b pro psks), shV p (twY p a b pro psks), .bool true]) []) := by
 have hn := zcd hp;have hr := zdg psks;have n3 : isC 3 p = false := by
  match c, h3 with
  | 0, _ => exact z5y hc (by decide)
  | 1, _ => exact z5y hc (by decide)
  | 2, _ => exact z5y hc (by decide)
 have BK : ∀ (first : Bool) (their : List UInt8) (knows : Bool), (knows = true ∨ their = zk) → zbp p first knows = true → zpw (z16 p) first pro their knows psks.length (keyF psks) = true := fun first their knows h1 h2 =>
  zvk.2 ⟨p, psks, hp, rfl, hpro, rfl, rfl, hps, h1, h2, fun h => by rw [n3] at h; cases h⟩
 match c, h3 with
 | 0, _ =>
  refine HCall.z1lg (R := RSh) (T := KX 0) (fun _ _ => .unroll 6) 6 rfl rfl ?_
  rw [z1it];have e := zct hc;have n2 : isC 2 p = false := z5y hc (by decide)
  have n1 : isC 1 p = false := z5y hc (by decide)
  have ex : twX p a b pro psks = z4g p true pro a zs false zs psks := by unfold twX; rw [hc]; rfl
  have ey : twY p a b pro psks = z4g p false pro b zs false zs psks := by unfold twY; rw [n2]; rfl
  unfold twW;refine zd.2 ⟨zkq.2 ⟨p, hp, hc, rfl⟩, zd.2 ⟨by rw [e]; exact BK _ _ _ (.inr rfl) (by unfold zbp; rw [n2, n1]; rfl), zd.2 ⟨by rw [e]; exact BK _ _ _ (.inr rfl) (by unfold zbp; rw [n2, n1]; rfl), ?_⟩⟩⟩
  rw [e, hn, hr, ex, ey];exact ⟨rfl, rfl⟩
 | 1, _ =>
  refine HCall.z1lg (R := RSh) (T := KX 1) (fun _ _ => .unroll 6) 6 rfl rfl ?_
  rw [z1j1];have e := zct hc;have n2 : isC 2 p = false := z5y hc (by decide)
  have n0 : isC 0 p = false := z5y hc (by decide)
  have ex : twX p a b pro psks = z4g p true pro a (zy b) true zs psks := by unfold twX; rw [n0]; rfl
  have ey : twY p a b pro psks = z4g p false pro b zs false zs psks := by unfold twY; rw [n2]; rfl
  unfold twW;refine zd.2 ⟨zkq.2 ⟨p, hp, hc, rfl⟩, zd.2 ⟨by rw [e]; exact BK _ _ _ (.inl rfl) (by unfold zbp; rw [n2, hc]; rfl), zd.2 ⟨by rw [e]; exact BK _ _ _ (.inr rfl) (by unfold zbp; rw [n2, hc]; rfl), ?_⟩⟩⟩
  rw [e, hn, hr, ex, ey];exact ⟨rfl, rfl⟩
 | 2, _ =>
  refine HCall.z1lg (R := RSh) (T := KX 2) (fun _ _ => .unroll 6) 6 rfl rfl ?_
  rw [z1jf];have e := zct hc;have n0 : isC 0 p = false := z5y hc (by decide)
  have ex : twX p a b pro psks = z4g p true pro a (zy b) true zs psks := by unfold twX; rw [n0]; rfl
  have ey : twY p a b pro psks = z4g p false pro b (zy a) true zs psks := by unfold twY; rw [hc]; rfl
  unfold twW;refine zd.2 ⟨zkq.2 ⟨p, hp, hc, rfl⟩, zd.2 ⟨by rw [e]; exact BK _ _ _ (.inl rfl) (by unfold zbp; rw [hc]; rfl), zd.2 ⟨by rw [e]; exact BK _ _ _ (.inl rfl) (by unfold zbp; rw [hc]; rfl), ?_⟩⟩⟩
  rw [e, hn, hr, ex, ey];exact ⟨rfl, rfl⟩
def twKF (c : Nat) (l : List AV) (n : Nat) (f : Nat → List AV) (pro : List UInt8) : Bool := yes (∃ p psks, p ∈ z1q ∧ c < 3 ∧ isC c p = true ∧ l = flL [z3a c p] ∧ psks.length = n ∧ Shk.keyF psks = f ∧ pro.length ≤ 200 ∧ psks.length = p.psks.length)
def twK : Nat → List AV → Nat → (Nat → List AV) → List UInt8 → Bool := (zf twKF).val
theorem zyl {c : Nat} {l : List AV} {n : Nat} {f : Nat → List AV} {pro : List UInt8} : twK c l n f pro = true ↔ ∃ p psks, p ∈ z1q ∧ c < 3 ∧ isC c p = true ∧ l = flL [z3a c p] ∧ psks.length = n ∧ Shk.keyF psks = f ∧ pro.length ≤ 200 ∧ psks.length = p.psks.length := by rw [twK, (zf twKF).property]; exact z8y
def KY (c : Nat) : Ctr Tryz.E := Ctr.or ((Ctr.nil Tryz.E).add 13 (fun
  | [.agg l, .agg [.b8 32 a, .b8 32 _], .agg [.b8 32 b, .b8 32 _], .vecr false 32 n f, .vec8 _ pro] => some (twK c (flL l) n f pro, .ret (.tup [shV (z73 c (flL l)) (twX (z73 c (flL l)) a b pro (zar n f)), shV (z73 c (flL l)) (twY (z73 c (flL l)) a b pro (zar n f)), .bool true]) [])
  | _ => none) (by
   intro args pre out h hp
   split at h
   ·rename_i l a x b y n f fp pro;obtain ⟨rfl, rfl⟩ := spE h;obtain ⟨p, psks, h1, h2, h3, h4, rfl, rfl, h7, h8⟩ := zyl.1 hp;rw [h4, zct h3, zdg];have hl : leV (.agg l) (z3a c p) := by
     have := z42 l;rw [h4] at this; exact this
    have hpl : z1b (.agg l) = true := by
     show zw l = true;rw [← z53, h4, z53];show (z1b (z3a c p) && true) = true;rw [zdv]; rfl
    exact HCall.args (z1kj p h1 c h2 h3 a b x y psks fp pro h7 h8) (by show (z1b (.agg l) && _) = true; rw [hpl]; rfl) (z14 hl (z14 (leV.refl _) (z14 (leV.refl _) (z14 (leV.refl _) (z14 (leV.refl _) z3t)))))
   ·simp at h)) (KX c)
def mtS (n mask : Int) (a b c d : List UInt8) (k : Int) (text : List UInt8) : Nat → Sh × Sh :=
 (zf fun i => stS (z4t n mask) (twX (z4t n mask) a b (text.take 20) (z4r k (z4t n mask).psks.length)) (twY (z4t n mask) a b (text.take 20) (z4r k (z4t n mask).psks.length)) c d (fun j => text.take (10 * j)) i).val
def mtL (n mask : Int) (a b c d : List UInt8) (k : Int) (text : List UInt8) (f _r : Nat) : LPlan := bif f == 4 then
 .rel [0, 7, 10, 11, 12, 13, 17, 19, 20, 69] [69] Nat Inv.upTo Inv.up (fun i => [(70, .int .i64 ((i : Nat) : Int))])
  (fun i => [(15, .blk (shC (z4t n mask) (mtS n mask a b c d k text i).1) []), (16, .blk (shC (z4t n mask) (mtS n mask a b c d k text i).2) [])]) else .unroll 6
def eqC : List AV → List AV → Prop → Prop
 | a :: l, b :: m, k => (a = b) ∧ eqC l m k
 | _, _, k => k
theorem zwg : ∀ (l : List AV) {k : Prop}, k → eqC l l k
 | [], _, h => h
 | _ :: l, _, h => ⟨rfl, zwg l h⟩
def mtI (p : Pat) (cl : Nat) (n : Int) (text a b c d : List UInt8) (st : Nat → Sh × Sh) (cnt : Int) (w : Nat) (px py : Pat) (x y : Sh) : Prop :=
 eqC ([.int .i64 n, .str text, .int .i64 (p.turns.length : Nat), .int .i64 cnt, .b8 32 a, .b8 32 b, .b8 32 c, .b8 32 d] ++ (flL [z3a cl p] ++ (shC px x ++ shC py y)))
  ([.int .i64 n, .str text, .int .i64 (p.turns.length : Nat), .int .i64 ((w : Nat) : Int), .b8 32 a, .b8 32 b, .b8 32 c, .b8 32 d] ++ (flL [z3a cl p] ++ (shC p (st w).1 ++ shC p (st w).2))) True
def zt1 (x y : Sh) : Bool := ((x.sh == y.sh) && ((x.ck == y.ck) && ((x.n == y.n) && true))) && ((x.ch == y.ch) && ((x.hs == y.hs) && true))
def mtF (n : Int) (a b : List UInt8) (x y : Sh) (K : AV → Heap → Prop) : Prop :=
 za (!x.knows) (mid) (za (cond true (cond false true (x.their == zy b)) false) mid (K (.bool false) []))
 where
 mid : Prop := za (!y.knows) last (za (cond true (cond false true (y.their == zy a)) false) last (K (.bool false) []))
 last : Prop := za ((n % 6) != 2) (K (.bool true) []) (za x.knows (K (.bool (cond true (cond false true (cond true y.knows false)) false)) []) (K (.bool false) []))
def mtB (p : Pat) (cl : Nat) (n : Int) (text a b c d : List UInt8) (st : Nat → Sh × Sh) (w1 : Nat) (px py : Pat) (x y : Sh) (bad : Prop) (ok : Bool) : Prop :=
 za ok bad (za (cond false true (!(zt1 x y))) bad
  (za (Int.tmod ((w1 : Nat) : Int) 2 == 1)
   (∃ w2 : Nat, (Inv.up w2 < Inv.up w1 ∧ Inv.upTo [AV.int .i64 (p.turns.length : Nat)] w2) ∧ mtI p cl n text a b c d st (wr .i64 (((w1 : Nat) : Int) + 1)) w2 py px y x)
   (∃ w2 : Nat, (Inv.up w2 < Inv.up w1 ∧ Inv.upTo [AV.int .i64 (p.turns.length : Nat)] w2) ∧ mtI p cl n text a b c d st (wr .i64 (((w1 : Nat) : Int) + 1)) w2 px py x y)))
def mtT (text : List UInt8) (w : Nat) : List UInt8 := List.take (Int.toNat (wr .i64 (10 * ((w : Nat) : Int)))) text
def mtW (p : Pat) (cl : Nat) (n : Int) (text a b c d : List UInt8) (k : Int) (st : Nat → Sh × Sh) (K : AV → Heap → Prop) : Prop :=
 cnd (isC cl p) (cnd (true && decide (((p.psks.length : Nat) : Int) ≤ 4))
 (cnd (twK cl (flL [z3a cl p]) (z4r k (Int.toNat ((p.psks.length : Nat) : Int))).length (Shk.keyF (z4r k (Int.toNat ((p.psks.length : Nat) : Int)))) (List.take 20 text))
 ((∃ w0 : Nat, Inv.upTo [AV.int .i64 (p.turns.length : Nat)] w0 ∧ mtI p cl n text a b c d st 0 w0 (z73 cl (flL [z3a cl p])) (z73 cl (flL [z3a cl p]))
   (twX (z73 cl (flL [z3a cl p])) a b (List.take 20 text) (zar (z4r k (Int.toNat ((p.psks.length : Nat) : Int))).length (Shk.keyF (z4r k (Int.toNat ((p.psks.length : Nat) : Int))))))
   (twY (z73 cl (flL [z3a cl p])) a b (List.take 20 text) (zar (z4r k (Int.toNat ((p.psks.length : Nat) : Int))).length (Shk.keyF (z4r k (Int.toNat ((p.psks.length : Nat) : Int))))))) ∧
  (∀ w1 : Nat, Inv.upTo [AV.int .i64 (p.turns.length : Nat)] w1 → za (ltI ((w1 : Nat) : Int) (p.turns.length : Nat))
   (za (Int.tmod ((w1 : Nat) : Int) 2 == 1)
    (cnd (nnB (wr .i64 (10 * ((w1 : Nat) : Int)))) (cnd (goW (shC p (st w1).2) d (mtT text w1)) (cnd (goR (shC p (st w1).1) (wrX (shC p (st w1).2) d (mtT text w1)).2)
     (mtB p cl n text a b c d st w1 (zhf (shC p (st w1).2)) (zhf (shC p (st w1).1)) (wrX (shC p (st w1).2) d (mtT text w1)).1 (rdX (shC p (st w1).1) (wrX (shC p (st w1).2) d (mtT text w1)).2).1 (K (.bool false) [])
      (cond false true ((rdX (shC p (st w1).1) (wrX (shC p (st w1).2) d (mtT text w1)).2).2 != mtT text w1))))))
    (cnd (nnB (wr .i64 (10 * ((w1 : Nat) : Int)))) (cnd (goW (shC p (st w1).1) c (mtT text w1)) (cnd (goR (shC p (st w1).2) (wrX (shC p (st w1).1) c (mtT text w1)).2)
     (mtB p cl n text a b c d st w1 (zhf (shC p (st w1).1)) (zhf (shC p (st w1).2)) (wrX (shC p (st w1).1) c (mtT text w1)).1 (rdX (shC p (st w1).2) (wrX (shC p (st w1).1) c (mtT text w1)).2).1 (K (.bool false) [])
      (cond false true ((rdX (shC p (st w1).2) (wrX (shC p (st w1).1) c (mtT text w1)).2).2 != mtT text w1)))))))
   (cnd (goD (shC p (st w1).1)) (cnd (leB (st w1).1.ch.length 64) (cnd (goD (shC p (st w1).2)) (cnd (leB (st w1).2.ch.length 64) (cnd (goD (shC p (st w1).1)) (cnd (goD (shC p (st w1).2))
    (za (cond true ((true && (((z28 (st w1).1.ch []) == (z28 (st w1).2.ch [])) && true)) && ((true && (((z29 (st w1).1.ch []) == (z29 (st w1).2.ch [])) && true)) && true)) false)
     (mtF n a b (st w1).1 (st w1).2 K) (K (.bool false) []))))))))))))
theorem z1ko (n mask : Int) (a b c d : List UInt8) (k : Int) (text : List UInt8) (K : AV → Heap → Prop) : walk Tryz.E RSh (KY 0).C (mtL n mask a b c d k text) 6 4 [.int .i64 n, .int .i64 mask, .b8 32 a, .b8 32 b, .b8 32 c, .b8 32 d, .int .i64 k, .str text] K =
  mtW (z4t n mask) 0 n text a b c d k (mtS n mask a b c d k text) K := by kernel_rfl
theorem z1j7 (n mask : Int) (a b c d : List UInt8) (k : Int) (text : List UInt8) (K : AV → Heap → Prop) : walk Tryz.E RSh (KY 1).C (mtL n mask a b c d k text) 6 4 [.int .i64 n, .int .i64 mask, .b8 32 a, .b8 32 b, .b8 32 c, .b8 32 d, .int .i64 k, .str text] K =
  mtW (z4t n mask) 1 n text a b c d k (mtS n mask a b c d k text) K := by kernel_rfl
theorem z1kg (n mask : Int) (a b c d : List UInt8) (k : Int) (text : List UInt8) (K : AV → Heap → Prop) : walk Tryz.E RSh (KY 2).C (mtL n mask a b c d k text) 6 4 [.int .i64 n, .int .i64 mask, .b8 32 a, .b8 32 b, .b8 32 c, .b8 32 d, .int .i64 k, .str text] K =
  mtW (z4t n mask) 2 n text a b c d k (mtS n mask a b c d k text) K := by kernel_rfl
theorem zot {p : Pat} (h : p ∈ zia) : p.late = false ∧ isC 3 p = false ∧ (p.turns.all fun t => decide (t.length ≤ 7)) = true ∧ p.turns.length ≤ 5 ∧ flOk p = true := by
 have : (zia.all fun p => !p.late && (!isC 3 p && ((p.turns.all fun t => decide (t.length ≤ 7)) && (decide (p.turns.length ≤ 5) && flOk p)))) = true := by kernel_rfl
 have := List.all_eq_true.1 this p h;simp only [Bool.and_eq_true, Bool.not_eq_true', decide_eq_true_eq] at this;exact ⟨this.1, this.2.1, this.2.2.1, this.2.2.2.1, this.2.2.2.2⟩
theorem z1ei (n mask : Int) (h : n % 6 = 2) : (z4t n mask).base = [88, 88] := by
 rw [zp5, h];have h3 := Int.emod_nonneg mask (show (16 : Int) ≠ 0 by decide)
 have h4 := Int.emod_lt_of_pos mask (show (0 : Int) < 16 by decide)
 have : ((List.range 16).all fun (m : Nat) => (zgy 2 (m : Int)).base == [88, 88]) = true := by kernel_rfl
 have := List.all_eq_true.1 this (mask % 16).toNat (List.mem_range.2 (by omega))
 rw [Int.toNat_of_nonneg h3] at this;exact eq_of_beq this
theorem z183 (k : Int) (m : Nat) : (z4r k m).length = m ∧ z10b (z4r k m) := by
 rw [zvx];unfold z5b;refine ⟨by rw [List.length_map, List.length_range], fun x hx => ?_⟩
 obtain ⟨i, _, rfl⟩ := List.mem_map.1 hx;exact zxd _
theorem z1ac {p : Pat} (h : p ∈ zia) (cl : Nat) (h3 : cl < 3) (hc : isC cl p = true) (a b c d pro : List UInt8) (ps : List (List UInt8)) (la : a.length = 32) (lb : b.length = 32) (hps : ps.length = p.psks.length) (ha : z10b ps) :
  Two p a b c d 0 (twX p a b pro ps) (twY p a b pro ps) := by
 obtain ⟨t1, t2, t3, t4, t5⟩ := zot h;have hi : iJ p 0 = true := by unfold iJ; rw [t1]; rfl
 have hk : isC cl p = true := hc;simp only [isC, Bool.and_eq_true, beq_iff_eq] at hk;have hf : fl0 p = ⟨false, false, (preC cl).2.contains 2, (preC cl).1.contains 2, 0⟩ := by unfold fl0; rw [t1, hk.1, hk.2]; rfl
 have n3 := t2
 match cl, h3 with
 | 0, _ =>
  have n2 : isC 2 p = false := z5y hc (by decide)
  have n1 : isC 1 p = false := z5y hc (by decide)
  have ex : twX p a b pro ps = ⟨true, 0, false, false, zk, 0, zt (z16 p), sumS (zt (z16 p) ++ pro), a, zk, false, zs, false, zk, false, ps, 0⟩ := by
   unfold twX; rw [hc, z3z]; unfold z60; rw [n3, n2, n1]; rfl
  have ey : twY p a b pro ps = ⟨false, 0, false, false, zk, 0, zt (z16 p), sumS (zt (z16 p) ++ pro), b, zk, false, zs, false, zk, false, ps, 0⟩ := by
   unfold twY; rw [n2, z3z]; unfold z60; rw [n3, n2, n1]; rfl
  rw [ex, ey];refine ⟨⟨_, rfl, fun _ => ?_, fun h => (by rw [hi] at h; cases h)⟩, ?_, ?_, rfl, rfl, rfl, rfl, hps, hps⟩
  ·rw [hf];exact ⟨rfl, rfl, rfl, rfl, rfl, rfl, rfl, rfl, rfl, rfl, rfl, rfl, fun h => (by cases h), fun h => (by cases h), rfl, rfl, fun h => (by cases h), fun h => (by cases h)⟩
  ·exact ⟨rfl, z2p _, z1g _, la, rfl, rfl, rfl, .inr ⟨rfl, rfl, rfl⟩, ha, Int.le_refl 0⟩
  ·exact ⟨rfl, z2p _, z1g _, lb, rfl, rfl, rfl, .inr ⟨rfl, rfl, rfl⟩, ha, Int.le_refl 0⟩
 | 1, _ =>
  have n2 : isC 2 p = false := z5y hc (by decide)
  have n0 : isC 0 p = false := z5y hc (by decide)
  have ex : twX p a b pro ps = ⟨true, 0, false, false, zk, 0, zt (z16 p), sumS (sumS (zt (z16 p) ++ pro) ++ zy b), a, zk, false, zy b, true, zk, false, ps, 0⟩ := by
   unfold twX; rw [n0, z3z]; unfold z60; rw [n3, n2, hc]; rfl
  have ey : twY p a b pro ps = ⟨false, 0, false, false, zk, 0, zt (z16 p), sumS (sumS (zt (z16 p) ++ pro) ++ zy b), b, zk, false, zs, false, zk, false, ps, 0⟩ := by
   unfold twY; rw [n2, z3z]; unfold z60; rw [n3, n2, hc]; rfl
  rw [ex, ey];refine ⟨⟨_, rfl, fun _ => ?_, fun h => (by rw [hi] at h; cases h)⟩, ?_, ?_, rfl, rfl, rfl, rfl, hps, hps⟩
  ·rw [hf];exact ⟨rfl, rfl, rfl, rfl, rfl, rfl, rfl, rfl, rfl, rfl, rfl, rfl, fun h => (by cases h), fun h => (by cases h), rfl, rfl, fun _ => rfl, fun h => (by cases h)⟩
  ·exact ⟨rfl, z2p _, z1g _, la, rfl, z1v _, rfl, .inr ⟨rfl, rfl, rfl⟩, ha, Int.le_refl 0⟩
  ·exact ⟨rfl, z2p _, z1g _, lb, rfl, rfl, rfl, .inr ⟨rfl, rfl, rfl⟩, ha, Int.le_refl 0⟩
 | 2, _ =>
  have n0 : isC 0 p = false := z5y hc (by decide)
  have ex : twX p a b pro ps = ⟨true, 0, false, false, zk, 0, zt (z16 p), sumS (sumS (sumS (zt (z16 p) ++ pro) ++ zy a) ++ zy b), a, zk, false, zy b, true, zk, false, ps, 0⟩ := by
   unfold twX; rw [n0, z3z]; unfold z60; rw [n3, hc]; rfl
  have ey : twY p a b pro ps = ⟨false, 0, false, false, zk, 0, zt (z16 p), sumS (sumS (sumS (zt (z16 p) ++ pro) ++ zy a) ++ zy b), b, zk, false, zy a, true, zk, false, ps, 0⟩ := by
   unfold twY; rw [hc, z3z]; unfold z60; rw [n3, hc]; rfl
  rw [ex, ey];refine ⟨⟨_, rfl, fun _ => ?_, fun h => (by rw [hi] at h; cases h)⟩, ?_, ?_, rfl, rfl, rfl, rfl, hps, hps⟩
  ·rw [hf];exact ⟨rfl, rfl, rfl, rfl, rfl, rfl, rfl, rfl, rfl, rfl, rfl, rfl, fun h => (by cases h), fun h => (by cases h), rfl, rfl, fun _ => rfl, fun _ => rfl⟩
  ·exact ⟨rfl, z2p _, z1g _, la, rfl, z1v _, rfl, .inr ⟨rfl, rfl, rfl⟩, ha, Int.le_refl 0⟩
  ·exact ⟨rfl, z2p _, z1g _, lb, rfl, z1v _, rfl, .inr ⟨rfl, rfl, rfl⟩, ha, Int.le_refl 0⟩
theorem zyj {x y : Sh} (h1 : x.sh = y.sh) (h2 : x.ck = y.ck) (h3 : x.n = y.n) (h4 : x.ch = y.ch) (h5 : x.hs = y.hs) : zt1 x y = true := by
 unfold zt1;rw [h1, h2, h3, h4, h5];simp only [beq_self_eq_true, Bool.and_self, Bool.and_true]
theorem ztp {p : Pat} {cl : Nat} {n : Int} {text a b c d : List UInt8} {st : Nat → Sh × Sh} {cnt : Int} {w : Nat} {x y : Sh} (hc : cnt = ((w : Nat) : Int)) (hx : x = (st w).1) (hy : y = (st w).2) : mtI p cl n text a b c d st cnt w p p x y := by
 unfold mtI;rw [hc, hx, hy];exact zwg _ trivial
theorem zif {p : Pat} (hp : p ∈ zia) (cl : Nat) (h3 : cl < 3) (hc : isC cl p = true) (n : Int) (hxx : n % 6 = 2 → p.base = [88, 88]) (text a b c d : List UInt8) (k : Int) (la : a.length = 32) (lb : b.length = 32) (lc : c.length = 32) (ld : d.length = 32)
  (st : Nat → Sh × Sh) (hst : ∀ i, st i = stS p (twX p a b (text.take 20) (z4r k p.psks.length)) (twY p a b (text.take 20) (z4r k p.psks.length)) c d (fun j => text.take (10 * j)) i) :
  mtW p cl n text a b c d k st (Out.ret (.bool true) []).has := by
 obtain ⟨t1, t2, t3, t4, t5⟩ := zot hp;have hP := z14q hp;have hp4 := zdf hP;obtain ⟨lps, aps⟩ := z183 k p.psks.length;have hpro : (text.take 20).length ≤ 200 := by rw [List.length_take]; omega
 have T0 := z1ac hp cl h3 hc a b c d (text.take 20) (z4r k p.psks.length) la lb lps aps;have hfl : (flT p p.turns.length).isSome = true := by
  unfold flOk at t5;cases hq : flT p p.turns.length with
  | none => rw [hq] at t5; cases t5
  | some f => rfl
 have hx : ∀ j, j < p.turns.length → (text.take (10 * j)).length ≤ 300 := fun j hj => by rw [List.length_take]; omega
 have R := zzo (txt := fun j => text.take (10 * j)) la lb lc ld t3 (by omega) hfl hx T0
 have R : ∀ j, j ≤ p.turns.length → Two p a b c d j (st j).1 (st j).2 := fun j hj => by rw [hst]; exact R j hj
 have e1 : Int.toNat ((p.psks.length : Nat) : Int) = p.psks.length := Int.toNat_natCast _;unfold mtW;rw [e1, zct hc, zdg];refine zd.2 ⟨hc, zd.2 ⟨by rw [decide_eq_true (by omega : ((p.psks.length : Nat) : Int) ≤ 4)]; rfl, zd.2 ⟨zyl.2 ⟨p, z4r k p.psks.length, hP, h3, hc, rfl, rfl, rfl, hpro, lps⟩, ⟨0, Inv.upTo_int.2 (by omega), ?_⟩, fun w hw => ?_⟩⟩⟩
 ·refine ztp rfl ?_ ?_
  ·rw [hst, zja]; rfl
  ·rw [hst, zja]; rfl
 rw [Inv.upTo_int] at hw;have T := R w (by omega)
 refine zq.2 ⟨fun hlt => ?_, fun hge => ?_⟩
 ·have hlt : w < p.turns.length := by rw [z1o, decide_eq_true_eq] at hlt; omega
  have hw10 : wr .i64 (10 * ((w : Nat) : Int)) = ((10 * w : Nat) : Int) := by rw [z2f (by omega) (by omega)]; omega
  have htx : mtT text w = text.take (10 * w) := by unfold mtT; rw [hw10, Int.toNat_natCast]
  have hw1 : wr .i64 (((w : Nat) : Int) + 1) = ((w + 1 : Nat) : Int) := by rw [z2f (by omega) (by omega)]; rfl
  have hf1 : (flT p (w + 1)).isSome = true := by
   cases hq : flT p p.turns.length with
   | none => rw [hq] at hfl; cases hfl
   | some q =>
    obtain ⟨g, hg⟩ := zm9 (p := p) (p.turns.length - (w + 1)) (w + 1) (f := q) (by rw [show w + 1 + (p.turns.length - (w + 1)) = p.turns.length by omega]; exact hq)
    rw [hg]; rfl
  obtain ⟨h1, h2⟩ := zw0 (txt := text.take (10 * w)) la lb lc ld t3 hlt (by omega) hf1 (hx w hlt) T
  have hst1 : st (w + 1) = bif iJ p w then ((z1s p (st w).1 c (text.take (10 * w))).1, (z2v p (st w).2 (z1s p (st w).1 c (text.take (10 * w))).2.1).1) else ((z2v p (st w).1 (z1s p (st w).2 d (text.take (10 * w))).2.1).1, (z1s p (st w).2 d (text.take (10 * w))).1) := by
   rw [hst (w + 1), hst w, zja, stF]
  have hnn : nnB (wr .i64 (10 * ((w : Nat) : Int))) = true := z3e.2 (by rw [hw10]; omega)
  have hm := zuy p w;rw [t1] at hm;have hup : Inv.up (w + 1) < Inv.up w ∧ Inv.upTo [AV.int .i64 (p.turns.length : Nat)] (w + 1) := ⟨Inv.up_lt (by omega), Inv.upTo_int.2 (by omega)⟩
  have hmod : Int.tmod ((w : Nat) : Int) 2 = ((w % 2 : Nat) : Int) := rfl;rw [htx];refine zq.2 ⟨fun ho => ?_, fun ho => ?_⟩
  ·have hi : iJ p w = false := by
    rw [hm, eq_of_beq ho]; rfl
   obtain ⟨x', y', msg, e1, e2, T', s1, s2, s3, s4, s5⟩ := h2 hi;rw [hi, cond_false, e1, e2] at hst1;refine zd.2 ⟨hnn, zd.2 ⟨z15f hP T.py T.gy (by omega) (by rw [e1]), ?_⟩⟩
   rw [z13j, e1];refine zd.2 ⟨z13r hP T.px T.gx (by omega) (by rw [e2]), ?_⟩
   rw [z14j, e2, zk3, zk3];unfold mtB;refine zq.2 ⟨fun h => ?_, fun _ => zq.2 ⟨fun h => ?_, fun _ => zq.2 ⟨fun _ => ⟨w + 1, hup, ztp hw1 (by rw [hst1]) (by rw [hst1])⟩, fun h => (by rw [ho] at h; cases h)⟩⟩⟩
   ·have : (text.take (10 * w) != text.take (10 * w)) = true := h;rw [bne_self_eq_false] at this; cases this
   ·have h : (!(zt1 y' x')) = true := h;rw [zyj s1 s2 s3 s4 s5] at h; cases h
  ·have hi : iJ p w = true := by
    rw [hm, hmod];have : ((w % 2 : Nat) : Int) ≠ 1 := ne_of_beq_false (by rw [← hmod]; exact ho)
    have : w % 2 = 0 := by omega
    rw [this]; rfl
   obtain ⟨x', y', msg, e1, e2, T', s1, s2, s3, s4, s5⟩ := h1 hi;rw [hi, cond_true, e1, e2] at hst1;refine zd.2 ⟨hnn, zd.2 ⟨z15f hP T.px T.gx (by omega) (by rw [e1]), ?_⟩⟩
   rw [z13j, e1];refine zd.2 ⟨z13r hP T.py T.gy (by omega) (by rw [e2]), ?_⟩
   rw [z14j, e2, zk3, zk3];unfold mtB;refine zq.2 ⟨fun h => ?_, fun _ => zq.2 ⟨fun h => ?_, fun _ => zq.2 ⟨fun h => (by rw [ho] at h; cases h), fun _ => ⟨w + 1, hup, ztp hw1 (by rw [hst1]) (by rw [hst1])⟩⟩⟩⟩
   ·have : (text.take (10 * w) != text.take (10 * w)) = true := h;rw [bne_self_eq_false] at this; cases this
   ·have h : (!(zt1 x' y')) = true := h;rw [zyj s1 s2 s3 s4 s5] at h; cases h
 ·have hge : w = p.turns.length := by
   rw [z1o, decide_eq_false_iff_not] at hge; omega
  subst hge;have hl : (p.turns.length : Int) ≤ ((p.turns.length : Nat) : Int) := Int.le_refl _;obtain ⟨f, f1, f2, f3⟩ := T.fl;have hch : (st p.turns.length).1.ch = (st p.turns.length).2.ch := by
   cases hi : iJ p p.turns.length with
   | true => exact (f2 hi).ch
   | false => exact (f3 hi).ch.symm
  have hfo : p.base = [88, 88] → f.kw = true ∧ f.kr = true := by
   intro hb;unfold flOk at t5;rw [f1, hb] at t5;have t5 : (f.kw && f.kr) = true := t5
   rwa [Bool.and_eq_true] at t5
  have KX : ((st p.turns.length).1.knows = true → (st p.turns.length).1.their = zy b) ∧ ((st p.turns.length).2.knows = true → (st p.turns.length).2.their = zy a) ∧ (p.base = [88, 88] → (st p.turns.length).1.knows = true ∧ (st p.turns.length).2.knows = true) := by
   cases hi : iJ p p.turns.length with
   | true =>
    have S := f2 hi;exact ⟨fun h => S.tw (S.kw ▸ h), fun h => S.tr (S.kr ▸ h), fun h => ⟨S.kw.trans (hfo h).1, S.kr.trans (hfo h).2⟩⟩
   | false =>
    have S := f3 hi;exact ⟨fun h => S.tr (S.kr ▸ h), fun h => S.tw (S.kw ▸ h), fun h => ⟨S.kr.trans (hfo h).2, S.kw.trans (hfo h).1⟩⟩
  obtain ⟨k1, k2, k3⟩ := KX;have gX := z13l hP T.px T.gx (by omega) T.dx (by rw [T.tx]; exact hl)
  have gY := z13l hP T.py T.gy (by omega) T.dy (by rw [T.ty]; exact hl)
  refine zd.2 ⟨gX, zd.2 ⟨zp (by rw [T.gx.ch]; decide), zd.2 ⟨gY, zd.2 ⟨zp (by rw [T.gy.ch]; decide), zd.2 ⟨gX, zd.2 ⟨gY, ?_⟩⟩⟩⟩⟩⟩
  rw [hch];simp only [beq_self_eq_true, Bool.and_self, cond_true, Go.V.ite2_true];have yes : (Out.ret (.bool true) []).has (.bool true) [] := ⟨rfl, rfl⟩;have last : mtF.last n (st p.turns.length).1 (st p.turns.length).2 (Out.ret (.bool true) []).has := by
   unfold mtF.last;refine zq.2 ⟨fun _ => yes, fun h => ?_⟩
   have h : n % 6 = 2 := by
    have : (n % 6 == 2) = true := by
     unfold bne at h;simpa using h
    exact eq_of_beq this
   obtain ⟨q1, q2⟩ := k3 (hxx h);rw [q1, q2];exact yes
  have mid : mtF.mid n a (st p.turns.length).1 (st p.turns.length).2 (Out.ret (.bool true) []).has := by
   unfold mtF.mid;refine zq.2 ⟨fun _ => last, fun h => ?_⟩
   have h : (st p.turns.length).2.knows = true := by simpa using h
   rw [k2 h, beq_self_eq_true];exact last
  unfold mtF;refine zq.2 ⟨fun _ => mid, fun h => ?_⟩
  have h : (st p.turns.length).1.knows = true := by simpa using h
  rw [k1 h, beq_self_eq_true];exact mid
theorem zu6 (n : Int) (_hn : -9223372036854775808 ≤ n ∧ n ≤ 9223372036854775807) (mask : Int) (_hm : -9223372036854775808 ≤ mask ∧ mask ≤ 9223372036854775807) (a b c d : List UInt8) (k : Int) (_hk : -9223372036854775808 ≤ k ∧ k ≤ 9223372036854775807) (text : List UInt8) (_ht : text.length ≤ maxLen) :
  HCall Tryz.E 4 [.int .i64 n, .int .i64 mask, .b8 32 a, .b8 32 b, .b8 32 c, .b8 32 d, .int .i64 k, .str text] (.ret (.bool true) []) := by
 refine HCall.z1lj rfl rfl fun hlen => ?_
 have la : a.length = 32 := hlen (.b8 32 a) (by simp)
 have lb : b.length = 32 := hlen (.b8 32 b) (by simp)
 have lc : c.length = 32 := hlen (.b8 32 c) (by simp)
 have ld : d.length = 32 := hlen (.b8 32 d) (by simp)
 have hp := z18x n mask;have hxx := z1ei n mask;have hst : ∀ i, mtS n mask a b c d k text i = stS (z4t n mask) (twX (z4t n mask) a b (text.take 20) (z4r k (z4t n mask).psks.length)) (twY (z4t n mask) a b (text.take 20) (z4r k (z4t n mask).psks.length)) c d (fun j => text.take (10 * j)) i := fun i => by
  unfold mtS;rw [(zf _).property]
 rcases cls (z14q hp) with h | h | h | h
 ·refine HCall.z1lg (R := RSh) (T := KY 0) (mtL n mask a b c d k text) 6 rfl rfl ?_;rw [z1ko];exact zif hp 0 (by decide) h n hxx text a b c d k la lb lc ld _ hst
 ·refine HCall.z1lg (R := RSh) (T := KY 1) (mtL n mask a b c d k text) 6 rfl rfl ?_;rw [z1j7];exact zif hp 1 (by decide) h n hxx text a b c d k la lb lc ld _ hst
 ·refine HCall.z1lg (R := RSh) (T := KY 2) (mtL n mask a b c d k text) 6 rfl rfl ?_;rw [z1kg];exact zif hp 2 (by decide) h n hxx text a b c d k la lb lc ld _ hst
 ·rw [(zot hp).2.1] at h; cases h
end Go.Proofs.YtehaohfglolljaaGreatDoor