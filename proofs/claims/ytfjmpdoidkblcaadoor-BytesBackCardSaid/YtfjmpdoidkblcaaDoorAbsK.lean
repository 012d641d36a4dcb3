/- The abstract layer, part K: rows of numbers, small laws for the walk. -/
import Derived.Test.YtfjmpdoidkblcaaDoorAbsJ
set_option linter.unusedSimpArgs false
set_option linter.unusedVariables false
namespace Go.Ab
open Go

def u8s (l : List UInt8) : List AV := l.map .u8
def u32s (l : List UInt32) : List AV := l.map .u32
def u64s (l : List UInt64) : List AV := l.map .u64

theorem length_u8s (l : List UInt8) : (u8s l).length = l.length := by simp [u8s]
theorem length_u32s (l : List UInt32) : (u32s l).length = l.length := by simp [u32s]
theorem length_u64s (l : List UInt64) : (u64s l).length = l.length := by simp [u64s]
theorem getD_u8s (l : List UInt8) (i : Nat) (h : i < l.length) : (u8s l).getD i .any = .u8 (l.getD i 0) := by simp [u8s, List.getD, h]
theorem getD_u32s (l : List UInt32) (i : Nat) (h : i < l.length) : (u32s l).getD i .any = .u32 (l.getD i 0) := by simp [u32s, List.getD, h]
theorem getD_u64s (l : List UInt64) (i : Nat) (h : i < l.length) : (u64s l).getD i .any = .u64 (l.getD i 0) := by simp [u64s, List.getD, h]
theorem all_u8s (l : List UInt8) : (u8s l).all oneA = true := by simp [u8s, oneA]
theorem all_u32s (l : List UInt32) : (u32s l).all oneA = true := by simp [u32s, oneA]
theorem all_u64s (l : List UInt64) : (u64s l).all oneA = true := by simp [u64s, oneA]
theorem take_u8s (l : List UInt8) (n : Nat) : (u8s l).take n = u8s (l.take n) := by simp [u8s, List.map_take]
theorem take_u32s (l : List UInt32) (n : Nat) : (u32s l).take n = u32s (l.take n) := by simp [u32s, List.map_take]
theorem take_u64s (l : List UInt64) (n : Nat) : (u64s l).take n = u64s (l.take n) := by simp [u64s, List.map_take]
theorem drop_u8s (l : List UInt8) (n : Nat) : (u8s l).drop n = u8s (l.drop n) := by simp [u8s, List.map_drop]
theorem drop_u32s (l : List UInt32) (n : Nat) : (u32s l).drop n = u32s (l.drop n) := by simp [u32s, List.map_drop]
theorem drop_u64s (l : List UInt64) (n : Nat) : (u64s l).drop n = u64s (l.drop n) := by simp [u64s, List.map_drop]
theorem set_u8s (l : List UInt8) (n : Nat) (x : UInt8) : (u8s l).set n (.u8 x) = u8s (l.set n x) := by simp [u8s, List.map_set]
theorem set_u32s (l : List UInt32) (n : Nat) (x : UInt32) : (u32s l).set n (.u32 x) = u32s (l.set n x) := by simp [u32s, List.map_set]
theorem set_u64s (l : List UInt64) (n : Nat) (x : UInt64) : (u64s l).set n (.u64 x) = u64s (l.set n x) := by simp [u64s, List.map_set]
theorem append_u8s (l l' : List UInt8) : u8s l ++ u8s l' = u8s (l ++ l') := by simp [u8s]
theorem append_u32s (l l' : List UInt32) : u32s l ++ u32s l' = u32s (l ++ l') := by simp [u32s]
theorem append_u64s (l l' : List UInt64) : u64s l ++ u64s l' = u64s (l ++ l') := by simp [u64s]

/-- A store into one cell, and one over the whole. -/
theorem splice_one (c : List AV) (off : Nat) (v : AV) (h : off < c.length) : splice c off [v] = c.set off v := by
  simp only [splice, List.length_singleton]
  rw [List.set_eq_take_append_cons_drop, if_pos h]
  simp
theorem splice_all (c l : List AV) (h : c.length = l.length) : splice c 0 l = l := by
  simp [splice, h]

theorem Pure_any : Pure .any := fun _ _ _ _ _ h => h
theorem Pure_raw (v : Value) : Pure (.raw v) := fun _ _ _ _ _ h => h
theorem Pure_int (k : IntKind) (n : Int) : Pure (.int k n) := fun _ _ _ _ _ h => h
theorem Pure_u8 (n : UInt8) : Pure (.u8 n) := fun _ _ _ _ _ h => h
theorem Pure_u32 (n : UInt32) : Pure (.u32 n) := fun _ _ _ _ _ h => h
theorem Pure_u64 (n : UInt64) : Pure (.u64 n) := fun _ _ _ _ _ h => h
theorem Pure_bool (b : Bool) : Pure (.bool b) := fun _ _ _ _ _ h => h
theorem Pure_str (s : List UInt8) : Pure (.str s) := fun _ _ _ _ _ h => h
theorem Pure_agg {l : List AV} (h : PureL l) : Pure (.agg l) := fun _ _ _ _ _ ⟨cs, h1, h2⟩ => ⟨cs, h1, h.relL h2⟩
theorem Pure_tup {l : List AV} (h : PureL l) : Pure (.tup l) := fun _ _ _ _ _ ⟨cs, h1, h2⟩ => ⟨cs, h1, h.relL h2⟩
theorem Pure_vec {f : Bool} {n : Nat} {l : List AV} (h : PureL l) : Pure (.vec f n l) := fun _ _ _ _ _ ⟨a, cap, h1, h2, h3, h4⟩ =>
  ⟨a, cap, h1, h2, h3, h4.imp id fun ⟨b, off, vs, k1, k2, k3, k4⟩ => ⟨b, off, vs, k1, k2, h.relL k3, k4⟩⟩
theorem Pure_fn {f : Fn} {a b : List AV} (ha : PureL a) (hb : PureL b) : Pure (.fn f a b) := fun _ _ _ _ _ ⟨x, y, h1, h2, h3⟩ => ⟨x, y, h1, ha.relL h2, hb.relL h3⟩
theorem PureL_nil : PureL [] := fun _ h => by simp at h
theorem PureL_cons {a : AV} {l : List AV} (h : Pure a) (hl : PureL l) : PureL (a :: l) := fun x hx => by
  rcases List.mem_cons.1 hx with rfl | hx
  · exact h
  · exact hl x hx
theorem PureL_append {l l' : List AV} (h : PureL l) (h' : PureL l') : PureL (l ++ l') := fun x hx => by
  rcases List.mem_append.1 hx with hx | hx
  · exact h x hx
  · exact h' x hx
theorem PureL_u8s (l : List UInt8) : PureL (u8s l) := fun x hx => by
  obtain ⟨y, _, rfl⟩ := List.mem_map.1 hx; exact Pure_u8 y
theorem PureL_u32s (l : List UInt32) : PureL (u32s l) := fun x hx => by
  obtain ⟨y, _, rfl⟩ := List.mem_map.1 hx; exact Pure_u32 y
theorem PureL_u64s (l : List UInt64) : PureL (u64s l) := fun x hx => by
  obtain ⟨y, _, rfl⟩ := List.mem_map.1 hx; exact Pure_u64 y

theorem borrow64_le (a b c : UInt64) : (borrow64 a b c).toNat ≤ 1 := by unfold borrow64; split <;> decide
theorem carry64_le (a b c : UInt64) : (carry64 a b c).toNat ≤ 1 := by unfold carry64; split <;> decide

end Go.Ab
