import Derived.Test.YtehaohfglolljaaGreatDoorZzam
import Derived.Test.YtehaohfglolljaaGreatDoorZzag
import Derived.Test.YtehaohfglolljaaGreatDoorZzan
import Derived.Test.YtehaohfglolljaaGreatDoorZzaj
set_option linter.unusedSimpArgs false
set_option linter.unusedVariables false
namespace Go.Proofs.YtehaohfglolljaaGreatDoor
open Go Go.V Go.RowKit
set_option maxRecDepth 100000
theorem z1e7 (s p : List UInt8) : HCall Tryz.E 36 [.str s, .str p] (.ret (.tup [.str (Lib.trimPrefix s p), .bool (Lib.hasPrefix s p)]) []) := by
 refine HCall.of_same rfl rfl fun I w vs c r => ?_
 obtain ⟨x, xs, rfl, k1, k2⟩ := zr.1 r;obtain ⟨y, ys, rfl, k3, k4⟩ := zr.1 k2;cases z5k.1 k4;obtain rfl := zi.1 k1;obtain rfl := zi.1 k3;refine (Tryz.strings_CutPrefix ⟨s.toArray⟩ ⟨p.toArray⟩ w).mono ?_;rintro e w' ⟨rfl, rfl⟩;exact ⟨⟨_, rfl, z49.2 ⟨_, rfl, zr.2 ⟨_, _, rfl, zi.2 (by simp), zr.2 ⟨_, _, rfl, zl.2 (by simp), rfl⟩⟩⟩⟩, rfl⟩
theorem z1ce (s p : List UInt8) (h : s.length ≤ 1000000) : HCall Tryz.E 37 [.str s, .str p] (.ret (.tup [.str (Lib.trimSuffix s p), .bool (Lib.hasSuffix s p)]) []) := by
 refine HCall.of_same rfl rfl fun I w vs c r => ?_
 obtain ⟨x, xs, rfl, k1, k2⟩ := zr.1 r;obtain ⟨y, ys, rfl, k3, k4⟩ := zr.1 k2;cases z5k.1 k4;obtain rfl := zi.1 k1;obtain rfl := zi.1 k3;refine (Tryz.strings_CutSuffix ⟨s.toArray⟩ ⟨p.toArray⟩ w (by rw [Lib.size_eq]; simp; omega)).mono ?_
 rintro e w' ⟨rfl, rfl⟩;exact ⟨⟨_, rfl, z49.2 ⟨_, rfl, zr.2 ⟨_, _, rfl, zi.2 (by simp), zr.2 ⟨_, _, rfl, zl.2 (by simp), rfl⟩⟩⟩⟩, rfl⟩
theorem z16d {I : Imm} {w : World} (c : Conc Tryz.E.g (fun _ => none) I [] w) : ∃ m, w.cell? ⟨1, 0, none⟩ = some (.int .i64 m) := by
 obtain ⟨vs, ⟨_, k, rfl⟩, hl⟩ := c.glob 1 [.any] rfl;exact ⟨k, (hl 0 _ rfl).1⟩
theorem z17z (s p : List UInt8) (h : s.length ≤ 1000000) : HCall Tryz.E 38 [.str s, .str p] (.ret (.int .i64 (Lib.index s p)) []) := by
 refine HCall.of_same rfl rfl fun I w vs c r => ?_
 obtain ⟨x, xs, rfl, k1, k2⟩ := zr.1 r;obtain ⟨y, ys, rfl, k3, k4⟩ := zr.1 k2;cases z5k.1 k4;obtain rfl := zi.1 k1;obtain rfl := zi.1 k3;obtain ⟨m, hm⟩ := z16d c;refine (Tryz.strings_Index ⟨s.toArray⟩ ⟨p.toArray⟩ m w (by rw [Lib.size_eq]; simp; omega) hm).mono ?_
 rintro e w' ⟨rfl, rfl⟩;exact ⟨⟨_, rfl, zj.2 (by simp)⟩, rfl⟩
theorem z17j (s p : List UInt8) (h : s.length ≤ 1000000) (hp : 1 ≤ p.length) : HCall Tryz.E 39 [.str s, .str p] (.ret (.vec true 1 ((Lib.split s p).map AV.str)) []) := by
 refine HCall.z1my rfl fun I w vs c r => ?_
 obtain ⟨x, xs, rfl, k1, k2⟩ := zr.1 r;obtain ⟨y, ys, rfl, k3, k4⟩ := zr.1 k2;cases z5k.1 k4;obtain rfl := zi.1 k1;obtain rfl := zi.1 k3;obtain ⟨m, hm⟩ := z16d c;have h1 : 1 ≤ (⟨p.toArray⟩ : ByteArray).size := by rw [Lib.size_eq]; simpa using hp
 have hd := Lib.splitB_data ⟨p.toArray⟩ 0 (Lib.countB ⟨s.toArray⟩ ⟨p.toArray⟩) ⟨s.toArray⟩;have hc : Lib.countB ⟨s.toArray⟩ ⟨p.toArray⟩ = Lib.count s p := by simp [Lib.countB]
 have hlen := Lib.splitB_all ⟨p.toArray⟩ h1 0 _ ⟨s.toArray⟩ rfl;have e1 : (Lib.splitB ⟨p.toArray⟩ 0 (Lib.countB ⟨s.toArray⟩ ⟨p.toArray⟩) ⟨s.toArray⟩).map (·.data.toList) = Lib.split s p := by rw [hd, hc]; simp [Lib.split]
 have e2 : (Lib.splitB ⟨p.toArray⟩ 0 (Lib.countB ⟨s.toArray⟩ ⟨p.toArray⟩) ⟨s.toArray⟩).map Value.string = (Lib.split s p).map fun t => Value.string ⟨t.toArray⟩ := by
  rw [← e1, List.map_map];apply List.map_congr_left;intro b _;simp
 have e3 : Lib.countB ⟨s.toArray⟩ ⟨p.toArray⟩ + 1 = (Lib.split s p).length := by rw [← hlen, ← e1, List.length_map]
 have hs := Tryz.strings_Split ⟨s.toArray⟩ ⟨p.toArray⟩ m w (by rw [Lib.size_eq]; simp; omega) hm h1
 rw [e2, e3] at hs;exact ⟨_, hs⟩
def strsOf : List AV → Option (List (List UInt8))
 | [] => some []
 | .str s :: l => (strsOf l).map (s :: ·)
 | _ => none
theorem zqj : ∀ {l : List AV} {m : List (List UInt8)}, strsOf l = some m → l = m.map AV.str
 | [], m, h => by simp only [strsOf, Option.some.injEq] at h; subst h; rfl
 | a :: l, m, h => by
  cases a with
  | str s =>
   simp only [strsOf, Option.map_eq_some_iff] at h;obtain ⟨m', h1, rfl⟩ := h;rw [zqj h1]; rfl
  | _ => simp [strsOf] at h
theorem zye (full : Bool) (l : List (List UInt8)) (p : List UInt8) (h1 : l.length ≤ 1000000) (h2 : (Lib.join l p).length ≤ 1000000) : HCall Tryz.E 61 [.vec full 1 (l.map AV.str), .str p] (.ret (.str (Lib.join l p)) []) := by
 refine HCall.of_below (by show (zw (l.map AV.str) && _) = true; rw [zjb]; rfl) rfl fun I w vs c r => ?_
 obtain ⟨x, xs, rfl, k1, k2⟩ := zr.1 r;obtain ⟨y, ys, rfl, k3, k4⟩ := zr.1 k2;cases z5k.1 k4;obtain rfl := zi.1 k3;obtain ⟨_, us, hu, a, cap, rfl, g2, _, g4⟩ := z2h.1 k1;have hus : us = l.map fun s => Value.string ⟨s.toArray⟩ := by
  have : ∀ (m : List (List UInt8)) (vs : List Value), RL (fun _ => none) I w (m.map AV.str) vs → vs = m.map fun s => Value.string ⟨s.toArray⟩ := by
   intro m
   induction m with
   | nil => intro vs h; exact h
   | cons s m ih =>
    intro vs h;obtain ⟨ys, zs, rfl, h1, h2⟩ := z12.1 h;cases h1;rw [ih zs h2]; rfl
  exact this l us hu
 subst hus;rw [List.length_map] at g2 g4 ⊢;rcases g4 with h0 | ⟨b, off, rfl, g5, g6⟩
 ·obtain rfl : l = [] := List.eq_nil_of_length_eq_zero h0;refine (Tryz.strings_Join_none a cap ⟨p.toArray⟩ w).mono ?_;rintro e w' ⟨rfl, rfl⟩;exact ⟨⟨_, rfl, fun _ _ => zi.2 rfl⟩, Below.refl _ _⟩
 ·have e : (l.map fun s => (⟨s.toArray⟩ : ByteArray)).map (fun x => x.data.toList) = l := by
   rw [List.map_map];exact (List.map_congr_left fun s _ => by simp).trans (List.map_id l)
  have hj := Tryz.strings_Join b off cap (l.map fun s => ⟨s.toArray⟩) ⟨p.toArray⟩ w (fun j x hx => by
   rw [List.getElem?_map] at hx;refine (g6 j _ ?_).1;rw [List.getElem?_map];cases hl : l[j]? with
   | none => rw [hl] at hx; simp at hx
   | some t => rw [hl] at hx; simp only [Option.map_some, Option.some.injEq] at hx ⊢; rw [hx]) g5 (by rw [List.length_map]; omega) (by rw [List.length_map]; exact g2) (by rw [e]; show (Lib.join l p).length ≤ _; omega)
  rw [List.length_map] at hj;refine hj.mono ?_;rintro e w' ⟨rfl, hb⟩;exact ⟨⟨_, rfl, fun _ _ => zi.2 (by rw [e])⟩, hb⟩
noncomputable def Ustr : Ctr Tryz.E := ((((Ctr.nil Tryz.E).add 36 (fun
  | [.str s, .str p] => some (true, .ret (.tup [.str (Lib.trimPrefix s p), .bool (Lib.hasPrefix s p)]) [])
  | _ => none) (by
   intro args pre out h hp
   split at h
   ·obtain ⟨rfl, rfl⟩ := spE h;exact z1e7 _ _
   ·simp at h)).add 37 (fun
  | [.str s, .str p] => some (leB s.length 1000000, .ret (.tup [.str (Lib.trimSuffix s p), .bool (Lib.hasSuffix s p)]) [])
  | _ => none) (by
   intro args pre out h hp
   split at h
   ·obtain ⟨rfl, rfl⟩ := spE h;exact z1ce _ _ (zh.1 hp)
   ·simp at h)).add 38 (fun
  | [.str s, .str p] => some (leB s.length 1000000, .ret (.int .i64 (Lib.index s p)) [])
  | _ => none) (by
   intro args pre out h hp
   split at h
   ·obtain ⟨rfl, rfl⟩ := spE h;exact z17z _ _ (zh.1 hp)
   ·simp at h)).add 39 (fun
  | [.str s, .str p] => some (leB s.length 1000000 && leB 1 p.length, .ret (.vec true 1 ((Lib.split s p).map AV.str)) [])
  | _ => none) (by
   intro args pre out h hp
   split at h
   ·obtain ⟨rfl, rfl⟩ := spE h;simp only [Bool.and_eq_true] at hp;exact z17j _ _ (zh.1 hp.1) (zh.1 hp.2)
   ·simp at h) |>.add 61 (fun
  | [.vec full k l, .str p] => match strsOf l with
   | some m => some (k == 1 && (leB m.length 1000000 && leB (Lib.join m p).length 1000000), .ret (.str (Lib.join m p)) [])
   | none => none
  | [.vec8 true [], .str p] => some (true, .ret (.str []) [])
  | _ => none) (by
   intro args pre out h hp
   split at h
   ·split at h
    ·rename_i m hm;obtain ⟨rfl, rfl⟩ := spE h;simp only [Bool.and_eq_true, beq_iff_eq] at hp;obtain ⟨rfl, h1, h2⟩ := hp;rw [zqj hm];exact zye _ _ _ (zh.1 h1) (zh.1 h2)
    ·simp at h
   ·obtain ⟨rfl, rfl⟩ := spE h;rename_i p;refine HCall.args (zye true [] p (by simp) (by simp [Lib.join])) rfl fun ρ I w vs r => ?_
    obtain ⟨x, xs, rfl, k1, k2⟩ := zr.1 r;obtain ⟨a, cap, rfl, q1, q2, q3⟩ := z22.1 k1;exact zr.2 ⟨_, xs, rfl, z2h.2 ⟨by simp, [], rfl, a, cap, rfl, q1, q2, .inl rfl⟩, k2⟩
   ·simp at h)
end Go.Proofs.YtehaohfglolljaaGreatDoor