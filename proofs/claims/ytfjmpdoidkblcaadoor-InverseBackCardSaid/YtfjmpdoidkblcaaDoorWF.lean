/- The abstract layer (third state), part F: loops by plan, calls walked through, the walker over code; a contract off a walk. -/
import Derived.Test.YtfjmpdoidkblcaaDoorWN
set_option linter.unusedSimpArgs false
set_option linter.unusedVariables false
namespace Go.V
open Go
noncomputable section

/-- How a loop is walked: so many rounds; or by what holds at each round's head. -/
inductive LPlan where
  | none
  | unroll (n : Nat)
  | inv (α : Type) (ok : α → Prop) (m : α → Nat) (T : α → List AV) (H : α → Heap)

/-- The first region's number. -/
def frid : Code → Nat
  | .region id _ _ => id
  | .seq a _ => frid a
  | .cond _ a _ => frid a
  | .block _ c => frid c
  | .loop c => frid c
  | _ => 0

def leA (a b : AV) (k : Prop) : Prop :=
  match b with
  | .any => k
  | .ptr j p => match a with
    | .ptr i o => cnd ((i == j) && (o == p)) k
    | _ => False
  | b => a = b ∧ k
def leT : List AV → List AV → Prop → Prop
  | [], [], k => k
  | a :: as, b :: bs, k => leA a b (leT as bs k)
  | _, _, _ => False
def leC : List AV → List AV → Prop → Prop
  | [], [], k => k
  | a :: as, b :: bs, k => match b with
    | .any => cnd (szA a == 1) (leC as bs k)
    | .ptr j p => match a with
      | .ptr i o => cnd ((i == j) && (o == p)) (leC as bs k)
      | _ => False
    | b => a = b ∧ leC as bs k
  | _, _, _ => False
def eqF (f f' : List (Nat × Nat)) : Bool := match f, f' with
  | [], [] => true
  | (a, b) :: r, (c, d) :: r' => ((a == c) && (b == d)) && eqF r r'
  | _, _ => false
def leE (e e' : Ent) (k : Prop) : Prop :=
  match e' with
  | .dead => k
  | .blk c' f' => match e with
    | .blk c f => cnd (eqF f f') (leC c c' k)
    | _ => False
  | .grow8 l' f' => match e with
    | .grow8 l f => cnd (eqF f f') (l = l' ∧ k)
    | _ => False
  | .grow n' r' f' => match e with
    | .grow n r f => cnd ((n == n') && eqF f f') (r = r' ∧ k)
    | _ => False
  | .res => False
def leH : Heap → Heap → Prop → Prop
  | [], [], k => k
  | a :: as, b :: bs, k => leE a b (leH as bs k)
  | _, _, _ => False
/-- One state says no more than another one, of which the later entries are forgotten. -/
def leS (n : Nat) (s : St) (T : List AV) (H : Heap) : Prop := leT s.t T (leH (s.H.take n) H True)

def refsOk (n : Nat) (T : List AV) (H : Heap) : Bool := refsL n T && H.all fun e => match e with
  | .blk c _ => refsL n c
  | .grow _ rows _ => refsL n rows
  | _ => true

def fS (s : St) (k : St → Prop) : Prop := fL s.t fun t => fH s.H fun H => k ⟨t, H⟩
theorem fS_eq (s : St) (k : St → Prop) : fS s k = k s := by simp only [fS, fL_eq, fH_eq]
def loopU (F : (Exit → St → Prop) → St → Prop) : Nat → (Exit → St → Prop) → St → Prop
  | 0, _, _ => False
  | n + 1, Q, s => F (thenA (loopU F n Q) Q) s

def loopV (pl : LPlan) (F : (Exit → St → Prop) → St → Prop) (Q : Exit → St → Prop) (s : St) : Prop :=
  match pl with
  | .none => False
  | .unroll n => loopU F n Q s
  | .inv α ok m T H => (∃ a : α, ok a ∧ leS s.H.length s (T a) (H a)) ∧
      ∀ a : α, ok a → cnd (((H a).length == s.H.length) && refsOk s.H.length (T a) (H a)) (fS ⟨T a, H a⟩ (F (thenA (fun s' => ∃ b : α, (m b < m a ∧ ok b) ∧ leS s.H.length s' (T b) (H b)) Q)))

/-- What the caller need not know of what a callee made is forgotten. -/
def gcH (n : Nat) (v : AV) (H : Heap) : Heap := bif refsA n v && refsOk n [] (H.take n) then H.take n else H

/-- A question, and what is known of it behind it. -/
def condT (t : List AV) (c : Operand) (v : AV) (x y : List AV → Prop) : Prop := match v with
  | .bool b => match c with
    | .tmp d => ite2 b (setB t d true x) (setB t d false y)
    | _ => ite2 b (x t) (y t)
  | _ => stuckIn 1 v
section
variable {P : Program} (G : Env P) (R : ROps G) (C : FuncId → List AV → Option (Bool × Out))

def aw3 (cl : FuncId → List AV → St → Option Tmp → (St → Prop) → Prop) (L : Nat → LPlan) : Code → (Exit → St → Prop) → St → Prop
  | .skip, Q, s => Q .normal s
  | .label _, Q, s => Q .normal s
  | .exit id, Q, s => Q (.exit id) s
  | .goto l, Q, s => Q (.goto l) s
  | .ret, Q, s => Q .ret s
  | .seq x y, Q, s => aw3 cl L x (thenA (aw3 cl L y Q) Q) s
  | .cond c x y, Q, s => condT s.t c (evA G s.t c) (fun t => aw3 cl L x Q ⟨t, s.H⟩) (fun t => aw3 cl L y Q ⟨t, s.H⟩)
  | .block id c, Q, s => aw3 cl L c (blockA id Q) s
  | .region _ ops false, Q, s => sops G R C cl ops ops.toList s (Q .normal)
  | .region _ ops true, Q, s => dops G R C ops ops.toList s.H.length ⟨s.t, s.H ++ List.replicate (countS G ops.toList) .res⟩ [] (drawn ops fun e s' => fH (trim (s'.H.length - s.H.length) s'.H) fun H => Q e ⟨s'.t, H⟩)
  | .loop c, Q, s => loopV (L (frid c)) (fun Q s => aw3 cl L c Q s) Q s
  | _, _, _ => False

def cinl (L : FuncId → Nat → LPlan) : Nat → FuncId → List AV → St → Option Tmp → (St → Prop) → Prop
  | 0, f, _, _, _, _ => stuckIn (1000 + f) .any
  | n + 1, f, args, s, d, K => match P.funcs[f]? with
    | some fn => match fn.body with
      | some c => fL (args ++ List.replicate (fn.ntmps - args.length) (.tup [])) fun t => aw3 G R C (cinl L n) (L f) c (aend G fn fun v H' => fL (killL (growsB s.H) s.t) fun t => fPut t d v fun t => fH (gcH s.H.length v H') fun H => K ⟨t, H⟩) ⟨t, s.H⟩
      | none => False
    | none => False

mutual
def refsOfA : AV → List Nat
  | .sl id _ _ _ => [id]
  | .ptr id _ => [id]
  | .tup l => refsOf l
  | .agg l => refsOf l
  | _ => []
def refsOf : List AV → List Nat
  | [] => []
  | a :: as => refsOfA a ++ refsOf as
end
def dedup : List Nat → List Nat → List Nat
  | [], acc => acc
  | a :: as, acc => bif acc.contains a then dedup as acc else dedup as (acc ++ [a])
def posIn : List Nat → Nat → Nat
  | [], _ => 0
  | a :: as, i => bif a == i then 0 else posIn as i + 1

end

mutual
/-- A value with its entries' numbers by their places in a list. -/
def colA (ids : List Nat) : AV → AV
  | .sl id off k len => .sl (posIn ids id) off k len
  | .ptr id off => .ptr (posIn ids id) off
  | .agg l => .agg (colL ids l)
  | .tup l => .tup (colL ids l)
  | a => a
def colL (ids : List Nat) : List AV → List AV
  | [] => []
  | a :: as => colA ids a :: colL ids as
end
mutual
def colOk (ids : List Nat) : AV → Bool
  | .sl id _ _ _ => ids.contains id
  | .ptr id _ => ids.contains id
  | .agg l => colOkL ids l
  | .tup l => colOkL ids l
  | a => refsA 0 a
def colOkL (ids : List Nat) : List AV → Bool
  | [] => true
  | a :: as => colOk ids a && colOkL ids as
end
def colE (H : Heap) : List Nat → Bool
  | [] => true
  | i :: r => (match H[i]? with
    | some e => e.live && refsE 0 e
    | none => false) && colE H r

/-- What is left of memory where a function ends that owned nothing at its beginning. -/
def collectK (K : AV → Heap → Prop) (v : AV) (H : Heap) : Prop :=
  let ids := dedup (refsOf [v]) []
  cnd (colOk ids v && colE H ids) (K (colA ids v) (ids.map fun i => H.getD i .dead))

section
variable {P : Program} (G : Env P) (R : ROps G) (C : FuncId → List AV → Option (Bool × Out))
/-- A function's body, walked through, from no memory at all. -/
def walk (L : FuncId → Nat → LPlan) (n : Nat) (f : FuncId) (args : List AV) (K : AV → Heap → Prop) : Prop :=
  match P.funcs[f]? with
  | some fn => match fn.body with
    | some c => fL (args ++ List.replicate (fn.ntmps - args.length) (.tup [])) fun t => aw3 G R C (cinl G R C L n) (L f) c (aend G fn (collectK K)) ⟨t, []⟩
    | none => False
  | none => False
end
end
end Go.V
