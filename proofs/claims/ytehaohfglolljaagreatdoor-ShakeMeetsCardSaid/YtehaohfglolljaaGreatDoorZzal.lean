import Derived.Test.YtehaohfglolljaaGreatDoorZzaj
import Derived.KernelRfl
import Derived.Test.YtehaohfglolljaaGreatDoorZzah
noncomputable section
set_option linter.unusedSimpArgs false
set_option linter.unusedVariables false
namespace Go.Pat
open Go Go.V
set_option maxRecDepth 100000
def zpa : List (List UInt8 × List Int) := [
 ([78, 78], []),
 ([78, 78], [0]),
 ([78, 78], [1]),
 ([78, 78], [0, 1]),
 ([78, 78], [2]),
 ([78, 78], [0, 2]),
 ([78, 78], [1, 2]),
 ([78, 78], [0, 1, 2]),
 ([78, 75], []),
 ([78, 75], [0]),
 ([78, 75], [1]),
 ([78, 75], [0, 1]),
 ([78, 75], [2]),
 ([78, 75], [0, 2]),
 ([78, 75], [1, 2]),
 ([78, 75], [0, 1, 2]),
 ([73, 75], []),
 ([73, 75], [0]),
 ([73, 75], [1]),
 ([73, 75], [0, 1]),
 ([73, 75], [2]),
 ([73, 75], [0, 2]),
 ([73, 75], [1, 2]),
 ([73, 75], [0, 1, 2]),
 ([75, 75], []),
 ([75, 75], [0]),
 ([75, 75], [1]),
 ([75, 75], [0, 1]),
 ([75, 75], [2]),
 ([75, 75], [0, 2]),
 ([75, 75], [1, 2]),
 ([75, 75], [0, 1, 2]),
 ([88, 88], []),
 ([88, 88], [0]),
 ([88, 88], [1]),
 ([88, 88], [0, 1]),
 ([88, 88], [2]),
 ([88, 88], [0, 2]),
 ([88, 88], [1, 2]),
 ([88, 88], [0, 1, 2]),
 ([88, 88], [3]),
 ([88, 88], [0, 3]),
 ([88, 88], [1, 3]),
 ([88, 88], [0, 1, 3]),
 ([88, 88], [2, 3]),
 ([88, 88], [0, 2, 3]),
 ([88, 88], [1, 2, 3]),
 ([88, 88], [0, 1, 2, 3]),
 ([88, 75], []),
 ([88, 75], [0]),
 ([88, 75], [1]),
 ([88, 75], [0, 1]),
 ([88, 75], [2]),
 ([88, 75], [0, 2]),
 ([88, 75], [1, 2]),
 ([88, 75], [0, 1, 2]),
 ([88, 75], [3]),
 ([88, 75], [0, 3]),
 ([88, 75], [1, 3]),
 ([88, 75], [0, 1, 3]),
 ([88, 75], [2, 3]),
 ([88, 75], [0, 2, 3]),
 ([88, 75], [1, 2, 3]),
 ([88, 75], [0, 1, 2, 3]),
 ([88, 88, 102, 97, 108, 108, 98, 97, 99, 107], [])]
def z1q : List Pat := [
 ⟨[78, 78], false, [], [], [], [[1], [1, 3]]⟩,
 ⟨[78, 78], false, [0], [], [], [[7, 1], [1, 3]]⟩,
 ⟨[78, 78], false, [1], [], [], [[1, 7], [1, 3]]⟩,
 ⟨[78, 78], false, [0, 1], [], [], [[7, 1, 7], [1, 3]]⟩,
 ⟨[78, 78], false, [2], [], [], [[1], [1, 3, 7]]⟩,
 ⟨[78, 78], false, [0, 2], [], [], [[7, 1], [1, 3, 7]]⟩,
 ⟨[78, 78], false, [1, 2], [], [], [[1, 7], [1, 3, 7]]⟩,
 ⟨[78, 78], false, [0, 1, 2], [], [], [[7, 1, 7], [1, 3, 7]]⟩,
 ⟨[78, 75], false, [], [], [2], [[1, 4], [1, 3]]⟩,
 ⟨[78, 75], false, [0], [], [2], [[7, 1, 4], [1, 3]]⟩,
 ⟨[78, 75], false, [1], [], [2], [[1, 4, 7], [1, 3]]⟩,
 ⟨[78, 75], false, [0, 1], [], [2], [[7, 1, 4, 7], [1, 3]]⟩,
 ⟨[78, 75], false, [2], [], [2], [[1, 4], [1, 3, 7]]⟩,
 ⟨[78, 75], false, [0, 2], [], [2], [[7, 1, 4], [1, 3, 7]]⟩,
 ⟨[78, 75], false, [1, 2], [], [2], [[1, 4, 7], [1, 3, 7]]⟩,
 ⟨[78, 75], false, [0, 1, 2], [], [2], [[7, 1, 4, 7], [1, 3, 7]]⟩,
 ⟨[73, 75], false, [], [], [2], [[1, 4, 2, 6], [1, 3, 5]]⟩,
 ⟨[73, 75], false, [0], [], [2], [[7, 1, 4, 2, 6], [1, 3, 5]]⟩,
 ⟨[73, 75], false, [1], [], [2], [[1, 4, 2, 6, 7], [1, 3, 5]]⟩,
 ⟨[73, 75], false, [0, 1], [], [2], [[7, 1, 4, 2, 6, 7], [1, 3, 5]]⟩,
 ⟨[73, 75], false, [2], [], [2], [[1, 4, 2, 6], [1, 3, 5, 7]]⟩,
 ⟨[73, 75], false, [0, 2], [], [2], [[7, 1, 4, 2, 6], [1, 3, 5, 7]]⟩,
 ⟨[73, 75], false, [1, 2], [], [2], [[1, 4, 2, 6, 7], [1, 3, 5, 7]]⟩,
 ⟨[73, 75], false, [0, 1, 2], [], [2], [[7, 1, 4, 2, 6, 7], [1, 3, 5, 7]]⟩,
 ⟨[75, 75], false, [], [2], [2], [[1, 4, 6], [1, 3, 5]]⟩,
 ⟨[75, 75], false, [0], [2], [2], [[7, 1, 4, 6], [1, 3, 5]]⟩,
 ⟨[75, 75], false, [1], [2], [2], [[1, 4, 6, 7], [1, 3, 5]]⟩,
 ⟨[75, 75], false, [0, 1], [2], [2], [[7, 1, 4, 6, 7], [1, 3, 5]]⟩,
 ⟨[75, 75], false, [2], [2], [2], [[1, 4, 6], [1, 3, 5, 7]]⟩,
 ⟨[75, 75], false, [0, 2], [2], [2], [[7, 1, 4, 6], [1, 3, 5, 7]]⟩,
 ⟨[75, 75], false, [1, 2], [2], [2], [[1, 4, 6, 7], [1, 3, 5, 7]]⟩,
 ⟨[75, 75], false, [0, 1, 2], [2], [2], [[7, 1, 4, 6, 7], [1, 3, 5, 7]]⟩,
 ⟨[88, 88], false, [], [], [], [[1], [1, 3, 2, 4], [2, 5]]⟩,
 ⟨[88, 88], false, [0], [], [], [[7, 1], [1, 3, 2, 4], [2, 5]]⟩,
 ⟨[88, 88], false, [1], [], [], [[1, 7], [1, 3, 2, 4], [2, 5]]⟩,
 ⟨[88, 88], false, [0, 1], [], [], [[7, 1, 7], [1, 3, 2, 4], [2, 5]]⟩,
 ⟨[88, 88], false, [2], [], [], [[1], [1, 3, 2, 4, 7], [2, 5]]⟩,
 ⟨[88, 88], false, [0, 2], [], [], [[7, 1], [1, 3, 2, 4, 7], [2, 5]]⟩,
 ⟨[88, 88], false, [1, 2], [], [], [[1, 7], [1, 3, 2, 4, 7], [2, 5]]⟩,
 ⟨[88, 88], false, [0, 1, 2], [], [], [[7, 1, 7], [1, 3, 2, 4, 7], [2, 5]]⟩,
 ⟨[88, 88], false, [3], [], [], [[1], [1, 3, 2, 4], [2, 5, 7]]⟩,
 ⟨[88, 88], false, [0, 3], [], [], [[7, 1], [1, 3, 2, 4], [2, 5, 7]]⟩,
 ⟨[88, 88], false, [1, 3], [], [], [[1, 7], [1, 3, 2, 4], [2, 5, 7]]⟩,
 ⟨[88, 88], false, [0, 1, 3], [], [], [[7, 1, 7], [1, 3, 2, 4], [2, 5, 7]]⟩,
 ⟨[88, 88], false, [2, 3], [], [], [[1], [1, 3, 2, 4, 7], [2, 5, 7]]⟩,
 ⟨[88, 88], false, [0, 2, 3], [], [], [[7, 1], [1, 3, 2, 4, 7], [2, 5, 7]]⟩,
 ⟨[88, 88], false, [1, 2, 3], [], [], [[1, 7], [1, 3, 2, 4, 7], [2, 5, 7]]⟩,
 ⟨[88, 88], false, [0, 1, 2, 3], [], [], [[7, 1, 7], [1, 3, 2, 4, 7], [2, 5, 7]]⟩,
 ⟨[88, 75], false, [], [], [2], [[1, 4], [1, 3], [2, 5]]⟩,
 ⟨[88, 75], false, [0], [], [2], [[7, 1, 4], [1, 3], [2, 5]]⟩,
 ⟨[88, 75], false, [1], [], [2], [[1, 4, 7], [1, 3], [2, 5]]⟩,
 ⟨[88, 75], false, [0, 1], [], [2], [[7, 1, 4, 7], [1, 3], [2, 5]]⟩,
 ⟨[88, 75], false, [2], [], [2], [[1, 4], [1, 3, 7], [2, 5]]⟩,
 ⟨[88, 75], false, [0, 2], [], [2], [[7, 1, 4], [1, 3, 7], [2, 5]]⟩,
 ⟨[88, 75], false, [1, 2], [], [2], [[1, 4, 7], [1, 3, 7], [2, 5]]⟩,
 ⟨[88, 75], false, [0, 1, 2], [], [2], [[7, 1, 4, 7], [1, 3, 7], [2, 5]]⟩,
 ⟨[88, 75], false, [3], [], [2], [[1, 4], [1, 3], [2, 5, 7]]⟩,
 ⟨[88, 75], false, [0, 3], [], [2], [[7, 1, 4], [1, 3], [2, 5, 7]]⟩,
 ⟨[88, 75], false, [1, 3], [], [2], [[1, 4, 7], [1, 3], [2, 5, 7]]⟩,
 ⟨[88, 75], false, [0, 1, 3], [], [2], [[7, 1, 4, 7], [1, 3], [2, 5, 7]]⟩,
 ⟨[88, 75], false, [2, 3], [], [2], [[1, 4], [1, 3, 7], [2, 5, 7]]⟩,
 ⟨[88, 75], false, [0, 2, 3], [], [2], [[7, 1, 4], [1, 3, 7], [2, 5, 7]]⟩,
 ⟨[88, 75], false, [1, 2, 3], [], [2], [[1, 4, 7], [1, 3, 7], [2, 5, 7]]⟩,
 ⟨[88, 75], false, [0, 1, 2, 3], [], [2], [[7, 1, 4, 7], [1, 3, 7], [2, 5, 7]]⟩,
 ⟨[88, 88, 102, 97, 108, 108, 98, 97, 99, 107], true, [], [1], [], [[1, 3, 2, 4], [2, 5]]⟩]
def z8t : List AV := z1q.map z54
theorem zya : zwb = zpa := by kernel_rfl
theorem zzg : z1q.map z54 = z8t := rfl
def idxF : List (List UInt8 × List Int) → List UInt8 → List Int → Nat
 | [], _, _ => 0
 | a :: r, s, l => bif a.1 == s && a.2 == l then 0 else idxF r s l + 1
def z1as : List AV → Nat → Out
 | [], _ => .ret (.tup []) []
 | a :: _, 0 => .ret (.tup [a, .int .i64 0]) []
 | _ :: r, n + 1 => z1as r n
def z12u (s : List UInt8) (l : List Int) : Out := z1as z8t (idxF zpa s l)
theorem z153 : (zpa.map fun x => z12u x.1 x.2) = zpa.map fun x => .ret (.tup [z54 (ze9 x.1 x.2), .int .i64 0]) [] := by kernel_rfl
theorem z19l {s : List UInt8} {l : List Int} (h : isW s l = true) : z12u s l = .ret (.tup [z54 (ze9 s l), .int .i64 0]) [] := by
 have h1 : (s, l) ∈ zpa := by rw [← zya]; exact of_decide_eq_true h
 exact List.map_inj_left.1 z153 (s, l) h1
def isWT (s : List UInt8) (l : List Int) : Bool := zpa.any fun a => a.1 == s && a.2 == l
theorem z188 {s : List UInt8} {l : List Int} : isWT s l = true ↔ isW s l = true := by
 unfold isWT isW;rw [List.any_eq_true, decide_eq_true_eq, zya];constructor
 ·rintro ⟨⟨a, b⟩, h, h2⟩;simp only [Bool.and_eq_true, beq_iff_eq] at h2;obtain ⟨rfl, rfl⟩ := h2;exact h
 ·intro h;exact ⟨(s, l), h, by simp⟩
theorem zr0 : ∀ (l m : List AV), zw (l ++ m) = (zw l && zw m)
 | [], m => by simp [zw]
 | a :: l, m => by rw [List.cons_append, zw, zw, zr0 l m, Bool.and_assoc]
mutual
theorem z19f : ∀ a : AV, zw (flA a) = z1b a
 | .agg l => z53 l
 | .any | .raw _ | .int _ _ | .u8 _ | .u32 _ | .u64 _ | .bool _ | .str _ | .b8 _ _ | .w32 _ _ | .w64 _ _ | .n64 _ _ | .ptr _ _ | .pix _ _ _ _ | .sl _ _ _ _ | .vec8 _ _ | .vec _ _ _ | .vecr _ _ _ _ | .slv _ _ _ _ | .vp _ _ | .vpx _ _ _ _ | .fn _ _ _ | .tup _ => Bool.and_true _
theorem z53 : ∀ l : List AV, zw (flL l) = zw l
 | [] => rfl
 | a :: l => by
  show zw (flA a ++ flL l) = (z1b a && zw l);rw [zr0, z19f a, z53 l]
end
def z1fp : List UInt8 := [78, 111, 105, 115, 101, 95]
def z1ku : List UInt8 := [95, 50, 53, 53, 49, 57, 95, 67, 104, 97, 67, 104, 97, 80, 111, 108, 121, 95, 66, 76, 65, 75, 69, 50, 115]
def pskN (n : Int) : List UInt8 := [112, 115, 107, UInt8.ofNat (48 + n).toNat]
def z1ay : List (List UInt8) → List UInt8
 | [] => []
 | [a] => a
 | a :: l => a ++ 43 :: z1ay l
def z16 (p : Pat) : List UInt8 := z1fp ++ p.base ++ z1ay (p.psks.map pskN) ++ z1ku
def tabS : List (AV × List UInt8) := z8t.zip (z1q.map z16)
def z118 (s : List UInt8) : AV → Bool
 | .tup [.str t, .int .i64 e] => decide (t = s) && e == 0
 | _ => false
theorem z1a3 {s : List UInt8} {x : AV} (h : z118 s x = true) : leV x (.tup [.str s, .int .i64 0]) := by
 unfold z118 at h
 split at h
 ·simp only [Bool.and_eq_true, decide_eq_true_eq, beq_iff_eq] at h;obtain ⟨rfl, rfl⟩ := h;exact leV.refl _
 ·cases h
theorem z17b {p : Pat} (h : p ∈ z1q) : (z54 p, z16 p) ∈ tabS := by
 unfold tabS;rw [← zzg, List.zip_map'];exact List.mem_map_of_mem (f := fun q => (z54 q, z16 q)) h
def zpr : List (List UInt8 × Pat) := z1q.map fun p => (z16 p, p)
theorem zhl {p : Pat} (h : p ∈ z1q) : (z16 p, p) ∈ zpr := List.mem_map_of_mem (f := fun q => (z16 q, q)) h
end Go.Pat
namespace Go.Shk
open Go Go.V Go.Pat
def RLe (l l' : List AV) : Prop := ∀ ρ I w xs, RL ρ I w l xs → RL ρ I w l' xs
def Re (a b : AV) : Prop := ∀ ρ I w xs, R ρ I w a xs → R ρ I w b xs
theorem RLe.refl (l : List AV) : RLe l l := fun _ _ _ _ h => h
theorem RLe.cons {a b : AV} {l l' : List AV} (h : Re a b) (h' : RLe l l') : RLe (a :: l) (b :: l') := fun _ _ _ _ r => by
 obtain ⟨ys, zs, rfl, q, r2⟩ := z12.1 r;exact z12.2 ⟨ys, zs, rfl, h _ _ _ _ q, h' _ _ _ _ r2⟩
theorem RLe.same {a : AV} {l l' : List AV} (h' : RLe l l') : RLe (a :: l) (a :: l') := RLe.cons (fun _ _ _ _ h => h) h'
theorem Re.of {a b : AV} (ha : z1w a = false) (ha2 : a ≠ .any) (ha3 : szA a = 1) (hb : z1w b = false) (hb2 : b ≠ .any) (h : leV a b) : Re a b := fun ρ I w ys q => by
 have hl := z3o a ys q;rw [ha3] at hl;obtain ⟨v, rfl⟩ : ∃ v, ys = [v] := by
  cases ys with
  | nil => simp at hl
  | cons v t => cases t with
   | nil => exact ⟨v, rfl⟩
   | cons _ _ => simp at hl
 have h1 : rel ρ I w a v := (z8l ha2).2 (by rw [ha]; exact q)
 have h2 := (z8l hb2).1 (h ρ I w v h1);rw [hb] at h2;exact h2
theorem leV_cells {l l' : List AV} (h : RLe l l') : leV (.agg l) (.agg l') := fun _ _ _ _ r => by
 obtain ⟨cs, h1, h2⟩ := z2w.1 r;exact z2w.2 ⟨cs, h1, h _ _ _ _ h2⟩
theorem RLe.flat {l l' : List AV} (h : RLe (flL l) (flL l')) : leV (.agg l) (.agg l') := fun ρ I w v r => by
 obtain ⟨cs, h1, h2⟩ := z2w.1 r;exact z2w.2 ⟨cs, h1, (z7s l' _).2 (h _ _ _ _ ((z7s l _).1 h2))⟩
def vK (l : List (List UInt8)) : AV := .vec false 32 (l.map fun x => .b8 32 x)
theorem z1eb (l : List (List UInt8)) : z1b (vK l) = true := by
 show zw _ = true
 induction l with
 | nil => rfl
 | cons a l ih => rw [List.map_cons, zw, ih]; rfl
structure Sh where
 first : Bool
 turn : Int
 dead : Bool
 sh : Bool
 ck : List UInt8
 n : UInt64
 ch : List UInt8
 hs : List UInt8
 own : List UInt8
 fr : List UInt8
 has : Bool
 their : List UInt8
 knows : Bool
 newest : List UInt8
 saw : Bool
 psks : List (List UInt8)
 used : Int
def shA (p : Pat) (s : Sh) : AV :=
 .agg [z54 p, .bool s.first, .int .i64 s.turn, .bool s.dead, .agg [.agg [.bool s.sh, .b8 32 s.ck, .u64 s.n], .b8 32 s.ch, .b8 32 s.hs], .b8 32 s.own, .b8 32 s.fr, .bool s.has, .b8 32 s.their, .bool s.knows, .b8 32 s.newest, .bool s.saw, vK s.psks, .int .i64 s.used]
theorem zta (p : Pat) (s : Sh) : z1b (shA p s) = true := by
 show zw _ = true;simp only [zw, z1b, zba, z1eb, Bool.and_self]
theorem Re.str (s : List UInt8) : Re (.str s) (.str s) := fun _ _ _ _ h => h
end Go.Shk
namespace Go.V
open Go
section
variable {P : Program} {G : Env P} {R : ROps G} {T : Ctr G}
def z1bl (e : AV) (v : AV) (H : Heap) : Prop := (zao H v).1 = true ∧ (zao H v).2.1 = e
def z1kp (q : AV → Prop) (v : AV) (H : Heap) : Prop := (zao H v).1 = true ∧ q (zao H v).2.1
theorem HCall.z1mf (L : FuncId → Nat → LPlan) (n : Nat) {f : FuncId} {args : List AV} {q : AV → Prop} {w0 : AV} (hp : zw args = true) (h : z5e G R T.C L n f args [] (z1kp q)) (hq : ∀ x, q x → leV x w0) (hw : z1b w0 = true) :
  HCall G f args (.ret w0 []) := by
 refine ⟨hp, by simp [Out.okB, z3p _ hw], fun ρ I w vs c r => (ACall.z1m2 h ρ I w vs c r).mono ?_⟩
 rintro e w' ⟨x, rfl, ρ', I', v, H', gd, c', hr, h1, h2⟩;obtain ⟨I2, f1, f2, f3, f4⟩ := zl9 v I' H' c' h1;obtain ⟨c2, g2⟩ := z7n f2 0 (fun e he => by simp at he)
 exact ⟨x, rfl, z7l 0 ρ', I2, w0, [], g2 (gd.trans f1) (fun id h => absurd (c.dom id h) (by simp)) (Nat.le_refl _), c2, z7i hw (hq _ h2 _ _ _ _ (f4 _ hr)), ⟨rfl, rfl⟩⟩
theorem HCall.z1mg (L : FuncId → Nat → LPlan) (n : Nat) {f : FuncId} {args : List AV} {w0 : AV} (hp : zw args = true) (h : z5e G R T.C L n f args [] (z1bl w0)) (hw : z1b w0 = true) :
  HCall G f args (.ret w0 []) :=
 HCall.z1mf L n (q := fun x => x = w0) hp h (fun x hx => by rw [hx]; exact leV.refl _) hw
def zsj {α : Type} (e : α → AV) : List α → Prop
 | [] => True
 | a :: r => (true = true ∧ e a = e a) ∧ zsj e r
theorem zwc {α : Type} (e : α → AV) : ∀ l : List α, zsj e l
 | [] => trivial
 | _ :: r => ⟨⟨rfl, rfl⟩, zwc e r⟩
theorem z17x {α : Type} {W : α → Prop} {e : α → AV} {l : List α} (h : zac W l = zsj e l) : ∀ a ∈ l, W a := zm6 (h.symm ▸ zwc e l)
end
end Go.V
namespace Go.Shk
open Go Go.V Go.Pat
def keyF (l : List (List UInt8)) (i : Nat) : List AV := [.b8 32 (l.getD i [])]
def vKs (l : List (List UInt8)) : AV := .vecr false 32 l.length (keyF l)
def shC (p : Pat) (s : Sh) : List AV := [.str p.base, .bool p.late, .vecr false 1 p.psks.length (intF p.psks), .vecr false 1 p.pre0.length (intF p.pre0), .vecr false 1 p.pre1.length (intF p.pre1), .vecr false 1 p.turns.length (trF p.turns), .bool s.first, .int .i64 s.turn, .bool s.dead, .bool s.sh, .b8 32 s.ck, .u64 s.n, .b8 32 s.ch, .b8 32 s.hs, .b8 32 s.own, .b8 32 s.fr, .bool s.has, .b8 32 s.their, .bool s.knows, .b8 32 s.newest, .bool s.saw, .vecr false 32 s.psks.length (keyF s.psks), .int .i64 s.used]
def shV (p : Pat) (s : Sh) : AV := .agg (shC p s)
theorem zj4 (l : List (List UInt8)) : leV (vK l) (vKs l) := by
 have h := zq8 (full := false) (k := 32) (rows := l.map fun x => AV.b8 32 x) fun i hi => by
  unfold z4v;rw [List.length_map] at hi;rw [List.getD_eq_getElem?_getD, List.getElem?_map, List.getElem?_eq_getElem hi]; rfl
 refine leV.trans h ?_;unfold vKs;rw [List.length_map];refine z6d (by simp) fun i hi => leR.of_eq rfl ?_
 unfold z4v keyF;rw [List.getD_eq_getElem?_getD, List.getElem?_map, List.getElem?_eq_getElem hi, List.getD_eq_getElem?_getD, List.getElem?_eq_getElem hi]; rfl
theorem z1et (l : List (List UInt8)) : leV (vKs l) (vK l) := by
 have h := zic (k := 32) (n := l.length) (f := keyF l) (g := fun i => .b8 32 (l.getD i [])) (fun _ _ => rfl) (fun _ _ _ _ _ _ r => by
  obtain ⟨ys, zs, rfl, h1, h2⟩ := z12.1 r;rw [zv8.1 h2, List.append_nil]; exact h1)
 have e : ((List.range l.length).map fun i => AV.b8 32 (l.getD i [])) = l.map fun x => AV.b8 32 x := map_range (fun x => AV.b8 32 x) [] l _ fun _ _ => rfl
 rw [e] at h;exact h
theorem zjv (l : List Int) : z64 (vL l) = true ∧ z63 (vL l) = l := by
 unfold vL;refine ⟨?_, ?_⟩
 ·simp only [z64, beq_self_eq_true, Bool.true_and, List.all_eq_true, List.mem_map, forall_exists_index, and_imp, forall_apply_eq_imp_iff₂];exact fun _ _ => rfl
 ·rw [z63, List.map_map]
  conv => rhs; rw [← List.map_id l]
  exact List.map_congr_left fun _ _ => rfl
theorem zt4 (t : List (List Int)) : zeh (vLL t) = true ∧ zhm (vLL t) = t := by
 unfold vLL;refine ⟨?_, ?_⟩
 ·simp only [zeh, beq_self_eq_true, Bool.true_and, List.all_eq_true, List.mem_map, forall_exists_index, and_imp, forall_apply_eq_imp_iff₂];exact fun l _ => (zjv l).1
 ·rw [zhm, List.map_map]
  conv => rhs; rw [← List.map_id t]
  exact List.map_congr_left fun l _ => (zjv l).2
theorem leV_vLI (l : List Int) : leV (vL l) (vI l) := by
 have := za2 (zjv l).1
 rwa [(zjv l).2] at this
theorem leV_vLT (l : List (List Int)) : leV (vLL l) (vT l) := by
 have := zzm (zt4 l).1
 rwa [(zt4 l).2] at this
theorem z1ix (p : Pat) (s : Sh) : leV (shV p s) (shA p s) :=
 RLe.flat (l := shC p s) (RLe.same (RLe.same
  (RLe.cons (Re.of rfl (by simp) rfl rfl (by simp [vL]) (z9k _)) (RLe.cons (Re.of rfl (by simp) rfl rfl (by simp [vL]) (z9k _)) (RLe.cons (Re.of rfl (by simp) rfl rfl (by simp [vL]) (z9k _)) (RLe.cons (Re.of rfl (by simp) rfl rfl (by simp [vLL]) (zyv _))
  (RLe.same (RLe.same (RLe.same (RLe.same (RLe.same (RLe.same (RLe.same (RLe.same (RLe.same (RLe.same (RLe.same (RLe.same (RLe.same (RLe.same (RLe.same (RLe.cons (Re.of rfl (by simp) rfl rfl (by simp [vK]) (z1et _)) (RLe.refl _)))))))))))))))))))))))
theorem z1j6 (p : Pat) (s : Sh) : leV (shA p s) (shV p s) :=
 RLe.flat (l' := shC p s) (RLe.same (RLe.same
  (RLe.cons (Re.of (a := vL _) rfl (by simp [vL]) rfl rfl (by simp) (leV_vLI _)) (RLe.cons (Re.of (a := vL _) rfl (by simp [vL]) rfl rfl (by simp) (leV_vLI _)) (RLe.cons (Re.of (a := vL _) rfl (by simp [vL]) rfl rfl (by simp) (leV_vLI _)) (RLe.cons (Re.of (a := vLL _) rfl (by simp [vLL]) rfl rfl (by simp) (leV_vLT _))
  (RLe.same (RLe.same (RLe.same (RLe.same (RLe.same (RLe.same (RLe.same (RLe.same (RLe.same (RLe.same (RLe.same (RLe.same (RLe.same (RLe.same (RLe.same (RLe.cons (Re.of (a := vK _) rfl (by simp [vK]) rfl rfl (by simp) (zj4 _)) (RLe.refl _)))))))))))))))))))))))
def z10b (l : List (List UInt8)) : Prop := ∀ k ∈ l, k.length = 32
theorem zwn {a b : List (List UInt8)} (hl : a.length = b.length) (h : keyF a = keyF b) : a = b := by
 apply List.ext_getElem hl;intro i h1 h2;have := congrFun h i;unfold keyF at this;simp only [List.getD_eq_getElem?_getD, List.getElem?_eq_getElem h1, List.getElem?_eq_getElem h2, Option.getD_some, List.cons.injEq, AV.b8.injEq, true_and, and_true] at this;exact this
theorem intF_inj {a b : List Int} (hl : a.length = b.length) (h : intF a = intF b) : a = b := by
 apply List.ext_getElem hl;intro i h1 h2;have := congrFun h i;unfold intF at this;simp only [List.getD_eq_getElem?_getD, List.getElem?_eq_getElem h1, List.getElem?_eq_getElem h2, Option.getD_some, List.cons.injEq, AV.int.injEq, true_and, and_true] at this;exact this
theorem trF_inj {a b : List (List Int)} (hl : a.length = b.length) (h : trF a = trF b) : a = b := by
 apply List.ext_getElem hl;intro i h1 h2;have := congrFun h i;unfold trF at this;simp only [List.getD_eq_getElem?_getD, List.getElem?_eq_getElem h1, List.getElem?_eq_getElem h2, Option.getD_some, List.cons.injEq, AV.vecr.injEq, true_and, and_true] at this;exact intF_inj this.1 this.2
theorem z1c3 {p q : Pat} {s t : Sh} (h : shC p s = shC q t) : p = q ∧ s = t := by
 unfold shC at h;simp only [List.cons.injEq, AV.str.injEq, AV.bool.injEq, AV.vecr.injEq, AV.int.injEq, AV.b8.injEq, AV.u64.injEq, true_and, and_true] at h;obtain ⟨h1, h2, ⟨a1, a2⟩, ⟨b1, b2⟩, ⟨c1, c2⟩, ⟨d1, d2⟩, e1, e2, e3, e4, e5, e6, e7, e8, e9, e10, e11, e12, e13, e14, e15, ⟨f1, f2⟩, e16⟩ := h;cases p; cases q; cases s; cases t
 simp only at *;refine ⟨?_, ?_⟩
 ·rw [h1, h2, intF_inj a1 a2, intF_inj b1 b2, intF_inj c1 c2, trF_inj d1 d2]
 ·rw [e1, e2, e3, e4, e5, e6, e7, e8, e9, e10, e11, e12, e13, e14, e15, zwn f1 f2, e16]
def z1m (c : List AV) : Pat × Sh := @dite _ (∃ x : Pat × Sh, c = shC x.1 x.2) (Classical.propDecidable _) (fun h => Classical.choose h) (fun _ => default)
 where default : Pat × Sh := (Inhabited.default, ⟨false, 0, false, false, [], 0, [], [], [], [], false, [], false, [], false, [], 0⟩)
theorem z7t (p : Pat) (s : Sh) : z1m (shC p s) = (p, s) := by
 have h : ∃ x : Pat × Sh, shC p s = shC x.1 x.2 := ⟨(p, s), rfl⟩;unfold z1m;rw [dif_pos h];obtain ⟨h1, h2⟩ := z1c3 (Classical.choose_spec h);exact Prod.ext h1.symm h2.symm
def isPF (c : List AV) : Bool := yes (∃ p ∈ z1q, c = zpk p)
def isP : List AV → Bool := (zf isPF).val
theorem zjx {c : List AV} : isP c = true ↔ ∃ p ∈ z1q, c = zpk p := by rw [isP, (zf isPF).property]; exact z8y
def z1ap (c : List AV) : Bool := yes (∃ p s, p ∈ z1q ∧ s.psks.length = p.psks.length ∧ c = shC p s)
def isSh : List AV → Bool := (zf z1ap).val
theorem zue {c : List AV} : isSh c = true ↔ ∃ p s, p ∈ z1q ∧ s.psks.length = p.psks.length ∧ c = shC p s := by rw [isSh, (zf z1ap).property]; exact z8y
end Go.Shk
namespace Go.Tm
open Go Go.V Go.Pat
def tkOf (who used : Nat) (t : Int) : Tk := if t = 1 then .e who else if t = 2 then .s who else if t = 3 then .ee else if t = 4 then .es else if t = 5 then .se else if t = 6 then .ss else .psk used
def zsf (who : Nat) : List Int → Nat → List Tk × Nat
 | [], u => ([], u)
 | t :: l, u => (tkOf who u t :: (zsf who l (if t = 7 then u + 1 else u)).1, (zsf who l (if t = 7 then u + 1 else u)).2)
def z1az (late : Bool) : List (List Int) → Nat → Nat → List Tk
 | [], _, _ => []
 | l :: r, i, u => (zsf (if late then 1 - i % 2 else i % 2) l u).1 ++ .text i :: z1az late r (i + 1) (zsf (if late then 1 - i % 2 else i % 2) l u).2
def zs9 (p : Pat) : List Tk := z1az p.late p.turns 0 0
def z1at (p : Pat) : List Tm := z1kt (!p.psks.isEmpty) (zs9 p)
def z1jv (t : Tm) : Bool := decide (zsy t = 0) && (decide (dpT t ≤ 20) && smT t)
def chkT (p : Pat) : Bool := ((zs9 p).all (z1jz [] (zs9 p)) && (z1at p).all z1jv) && ((decide (z6w (z1at p) ≤ 250) && (p.pre0.all (·!= 1) && p.pre1.all (·!= 1))) && ((List.range p.turns.length).all (fun i => (zs9 p).contains (.text i)) && decide (2 ≤ p.turns.length ∧ p.turns.length ≤ 10)))
def zia : List Pat := z1q.filter chkT
mutual
def eqT : Tm → Tm → Bool
 | .mk k i o as, .mk k' i' o' as' => (k == k' && (i == i' && o == o')) && zp1 as as'
def zp1 : List Tm → List Tm → Bool
 | [], [] => true
 | a :: as, b :: bs => eqT a b && zp1 as bs
 | _, _ => false
end
mutual
theorem z1hv : ∀ {a b : Tm}, eqT a b = true → a = b
 | .mk k i o as, .mk k' i' o' as', h => by
  simp only [eqT, Bool.and_eq_true, beq_iff_eq] at h;obtain ⟨⟨rfl, rfl, rfl⟩, h⟩ := h;rw [zyw h]
theorem zyw : ∀ {a b : List Tm}, zp1 a b = true → a = b
 | [], [], _ => rfl
 | a :: as, b :: bs, h => by
  simp only [zp1, Bool.and_eq_true] at h;rw [z1hv h.1, zyw h.2]
 | [], _ :: _, h => by simp [zp1] at h
 | _ :: _, [], h => by simp [zp1] at h
end
theorem intF_inj {a b : List Int} (hl : a.length = b.length) (h : intF a = intF b) : a = b := by
 apply List.ext_getElem hl;intro i h1 h2;have := congrFun h i;unfold intF at this;simp only [List.getD_eq_getElem?_getD, List.getElem?_eq_getElem h1, List.getElem?_eq_getElem h2, Option.getD_some, List.cons.injEq, AV.int.injEq, true_and, and_true] at this;exact this
theorem trF_inj {a b : List (List Int)} (hl : a.length = b.length) (h : trF a = trF b) : a = b := by
 apply List.ext_getElem hl;intro i h1 h2;have := congrFun h i;unfold trF at this;simp only [List.getD_eq_getElem?_getD, List.getElem?_eq_getElem h1, List.getElem?_eq_getElem h2, Option.getD_some, List.cons.injEq, AV.vecr.injEq, true_and, and_true] at this;exact intF_inj this.1 this.2
end Go.Tm