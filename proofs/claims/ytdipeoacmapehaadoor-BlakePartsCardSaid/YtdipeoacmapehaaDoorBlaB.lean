import Derived.Test.YtdipeoacmapehaaDoorBlaA
set_option linter.unusedSimpArgs false
set_option linter.unusedVariables false
namespace Go.Proofs.YtdipeoacmapehaaDoor
open Go Go.V Go.Cha Go.Bla
set_option maxHeartbeats 0
set_option maxRecDepth 100000

def sqA (h : List UInt32) (held : List UInt8) (n len : Int) : List AV := [.w32 8 h, .b8 64 held, .int .i64 n, .int .i64 len]
def sqT (h : List UInt32) (held : List UInt8) (n len : Int) (last : Bool) (k : Int) : List AV := [.agg (sqA h held n len), .bool last, .ptr 0 0, .any, .ptr 1 0, .ptr 2 0] ++ List.replicate 11 .any ++ [.int .i64 k] ++ List.replicate 143 .any
def sqH (h : List UInt32) (held : List UInt8) (n len : Int) (m : List UInt32) : Heap := [.blk (sqA h held n len) [], .blk [.w32 8 [0, 0, 0, 0, 0, 0, 0, 0]] [], .blk [.w32 16 m] []]
def sqU (h : List UInt32) (held : List UInt8) (n len : Int) (last : Bool) (k : Int) : List AV := [.agg (sqA h held n len), .bool last, .ptr 0 0, .any, .ptr 1 0, .ptr 2 0, .any, .any, .ptr 3 0, .any, .fn (.func 28) [] [.ptr 3 0]] ++ List.replicate 66 .any ++ [.n64 160 ordersL, .int .i64 k] ++ List.replicate 82 .any
def sqI (h : List UInt32) (held : List UInt8) (n len : Int) (m v : List UInt32) : Heap := [.blk (sqA h held n len) [], .blk [.w32 8 [0, 0, 0, 0, 0, 0, 0, 0]] [], .blk [.w32 16 m] [], .blk [.w32 16 v] []]
def wordC (i k : Int) : Bool := inB (wr .i64 (wr .i64 (4 * i) + k)) 64
def wordT (held : List UInt8) (i k : Int) (j : Nat) (l : List UInt32) : List UInt32 := l.set j (shl32 (l.getD j 0) 8 ||| (held.getD (Int.toNat (wr .i64 (wr .i64 (4 * i) + k))) 0).toUInt32)

def sqP (h : List UInt32) (held : List UInt8) (n len : Int) (last : Bool) (K : AV → Heap → Prop) : Prop :=
  ((∃ a : Nat, a ≤ 16 ∧ leS 3 ⟨sqT h held n len last 0, sqH h held n len [0, 0, 0, 0, 0, 0, 0, 0, 0, 0, 0, 0, 0, 0, 0, 0]⟩ (sqT h held n len last (a : Int)) (sqH h held n len (wordsB held a))) ∧
   ∀ a : Nat, a ≤ 16 → ite2 (ltI (a : Int) 16)
     (cnd (inB (a : Int) 16) (cnd (wordC a 3) (cnd (inB (a : Int) 16) (cnd (inB (a : Int) 16) (cnd (wordC a 2) (cnd (inB (a : Int) 16) (cnd (inB (a : Int) 16) (cnd (wordC a 1) (cnd (inB (a : Int) 16) (cnd (inB (a : Int) 16) (cnd (wordC a 0) (cnd (inB (a : Int) 16)
       (∃ b : Nat, (16 - b < 16 - a ∧ b ≤ 16) ∧ leS 3 ⟨sqT h held n len last (wr .i64 ((a : Int) + 1)), sqH h held n len (wordT held a 0 a (wordT held a 1 a (wordT held a 2 a (wordT held a 3 a (wordsB held a)))))⟩ (sqT h held n len last (b : Int)) (sqH h held n len (wordsB held b)))))))))))))))
     ((∃ r : Nat, r ≤ 10 ∧ leS 4 ⟨sqU h held n len last 0, sqI h held n len (wordsB held a) (startB h len last)⟩ (sqU h held n len last (r : Int)) (sqI h held n len (wordsB held a) (roundsB (wordsB held 16) (startB h len last) r))) ∧
      ∀ r : Nat, r ≤ 10 → ite2 (ltI (r : Int) 10)
        (cnd (inB (r : Int) 10 && true) (cnd (cB r 0) (cnd (cB r 1) (cnd (cB r 2) (cnd (cB r 3) (cnd (cB r 4) (cnd (cB r 5) (cnd (cB r 6) (cnd (cB r 7) (cnd (cB r 8) (cnd (cB r 9) (cnd (cB r 10) (cnd (cB r 11) (cnd (cB r 12) (cnd (cB r 13) (cnd (cB r 14) (cnd (cB r 15) ((∃ b : Nat, (10 - b < 10 - r ∧ b ≤ 10) ∧ leS 4 ⟨sqU h held n len last (wr .i64 ((r : Int) + 1)), sqI h held n len (wordsB held a) (roundB (wordsB held a) r (roundsB (wordsB held 16) (startB h len last) r))⟩ (sqU h held n len last (b : Int)) (sqI h held n len (wordsB held a) (roundsB (wordsB held 16) (startB h len last) b)))))))))))))))))))))
        (K (.w32 8 (outB h (roundsB (wordsB held 16) (startB h len last) r))) [])))
theorem squeezeT_w (h : List UInt32) (held : List UInt8) (n len : Int) (K : AV → Heap → Prop) : walk Tryd.E RS T1.C (squeezeL held (startB h len true)) 5 22 [.agg [.w32 8 h, .b8 64 held, .int .i64 n, .int .i64 len], .bool true] K = sqP h held n len true K := by kernel_rfl
theorem squeezeF_w (h : List UInt32) (held : List UInt8) (n len : Int) (K : AV → Heap → Prop) : walk Tryd.E RS T1.C (squeezeL held (startB h len false)) 5 22 [.agg [.w32 8 h, .b8 64 held, .int .i64 n, .int .i64 len], .bool false] K = sqP h held n len false K := by kernel_rfl
end Go.Proofs.YtdipeoacmapehaaDoor
