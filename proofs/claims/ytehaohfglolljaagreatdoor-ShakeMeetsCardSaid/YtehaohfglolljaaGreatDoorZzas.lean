import Derived.KernelRfl
set_option linter.unusedSimpArgs false
set_option linter.unusedVariables false
namespace Go.Num
def Pr (p : Nat) : Prop := 2 ≤ p ∧ ∀ d, d ∣ p → d = 1 ∨ d = p
theorem Pr.pos {p : Nat} (h : Pr p) : 0 < p := by have := h.1; omega
theorem Pr.cop {p a : Nat} (hp : Pr p) (h : ¬ p ∣ a) : Nat.Coprime p a := by
 rcases hp.2 _ (Nat.gcd_dvd_left p a) with h2 | h2
 ·exact h2
 ·exact absurd (h2 ▸ Nat.gcd_dvd_right p a) h
theorem Pr.dvd_mul {p a b : Nat} (hp : Pr p) (h : p ∣ a * b) : p ∣ a ∨ p ∣ b := by
 by_cases ha : p ∣ a
 ·exact .inl ha
 ·exact .inr ((hp.cop ha).dvd_of_dvd_mul_left h)
def ch : Nat → Nat → Nat
 | _, 0 => 1
 | 0, _ + 1 => 0
 | n + 1, k + 1 => ch n k + ch n (k + 1)
theorem zox (n : Nat) : ch n 0 = 1 := by cases n <;> rfl
theorem z9z (n k : Nat) : ch (n + 1) (k + 1) = ch n k + ch n (k + 1) := rfl
theorem zom : ∀ (n k : Nat), (k + 1) * ch (n + 1) (k + 1) = (n + 1) * ch n k
 | 0, 0 => rfl
 | 0, k + 1 => by simp [ch]
 | m + 1, 0 => by
  have := zom m 0;rw [zox] at this ⊢;rw [z9z, zox];omega
 | m + 1, j + 1 => by
  have h1 := zom m (j + 1);have h2 := zom m j;have h3 := z9z m j;rw [z9z (m + 1) (j + 1)];generalize ch (m + 1) (j + 1) = x at *;generalize ch (m + 1) (j + 1 + 1) = y at *;generalize ch m j = u at *;generalize ch m (j + 1) = v at *
  grind
theorem zsa : ∀ (n k : Nat), n < k → ch n k = 0
 | 0, k + 1, _ => rfl
 | n + 1, k + 1, h => by rw [z9z, zsa n k (by omega), zsa n (k + 1) (by omega)]
theorem zzk : ∀ n : Nat, ch n n = 1
 | 0 => rfl
 | n + 1 => by rw [z9z, zzk n, zsa n (n + 1) (by omega)]
def bin (n a : Nat) : Nat → Nat
 | 0 => 1
 | k + 1 => bin n a k + ch n (k + 1) * a ^ (k + 1)
theorem zut (n a : Nat) : ∀ k, bin (n + 1) a (k + 1) = bin n a (k + 1) + a * bin n a k
 | 0 => by simp [bin, z9z, zox]; grind
 | k + 1 => by
  have ih := zut n a k;rw [bin, ih, z9z];simp only [bin];have : a ^ (k + 1 + 1) = a * a ^ (k + 1) := by rw [Nat.pow_succ, Nat.mul_comm]
  rw [this]
  grind
theorem zy9 (a : Nat) : ∀ n, (a + 1) ^ n = bin n a n
 | 0 => rfl
 | n + 1 => by
  rw [zut, Nat.pow_succ, zy9 a n];have : bin n a (n + 1) = bin n a n := by simp [bin, zsa n (n + 1) (by omega)]
  rw [this]
  grind
theorem zz9 {p : Nat} (hp : Pr p) (a : Nat) : ∀ k, k < p → bin p a k % p = 1 % p
 | 0, _ => rfl
 | k + 1, h => by
  have ih := zz9 hp a k (by omega)
  have h0 : p ∣ ch p (k + 1) := by
   obtain ⟨m, rfl⟩ : ∃ m, p = m + 1 := ⟨p - 1, by omega⟩
   have h1 : (m + 1) ∣ (k + 1) * ch (m + 1) (k + 1) := ⟨_, zom m k⟩;rcases hp.dvd_mul h1 with h2 | h2
   ·exact absurd (Nat.le_of_dvd (by omega) h2) (by omega)
   ·exact h2
  obtain ⟨c, hc⟩ := h0;rw [bin, hc, Nat.mul_assoc, Nat.add_mul_mod_self_left, ih]
theorem z16e {p : Nat} (hp : Pr p) : ∀ a, a ^ p % p = a % p
 | 0 => by rw [Nat.zero_pow hp.pos]
 | a + 1 => by
  have ih := z16e hp a;rw [zy9];obtain ⟨m, rfl⟩ : ∃ m, p = m + 1 := ⟨p - 1, by have := hp.1; omega⟩
  rw [bin, zzk, Nat.one_mul, Nat.add_mod, zz9 hp a m (by omega), ih, ← Nat.add_mod, Nat.add_comm]
theorem fermat1 {p a : Nat} (hp : Pr p) (h : ¬ p ∣ a) : a ^ (p - 1) % p = 1 := by
 have h1 := z16e hp a;have h2 := hp.1;have e : a ^ p = a * a ^ (p - 1) := by
  conv => lhs; rw [show p = p - 1 + 1 by omega, Nat.pow_succ, Nat.mul_comm]
 have hpos : 0 < a := by
  rcases Nat.eq_zero_or_pos a with rfl | h'
  ·exact absurd (Nat.dvd_zero p) h
  ·exact h'
 have h3 : p ∣ a * (a ^ (p - 1) - 1) := by
  rw [Nat.mul_sub, ← e, Nat.mul_one];exact Nat.dvd_of_mod_eq_zero (Nat.sub_mod_eq_zero_of_mod_eq h1)
 rcases hp.dvd_mul h3 with h4 | h4
 ·exact absurd h4 h
 ·obtain ⟨c, hc⟩ := h4;have h5 : 0 < a ^ (p - 1) := Nat.pow_pos hpos;rw [show a ^ (p - 1) = 1 + p * c by omega, Nat.add_mul_mod_self_left, Nat.mod_eq_of_lt (by omega)]
theorem z16z : ∀ n : Nat, 2 ≤ n → ∃ r, Pr r ∧ r ∣ n := by
 intro n
 induction n using Nat.strongRecOn with
 | _ n ih =>
  intro h
  by_cases hp : Pr n
  ·exact ⟨n, hp, Nat.dvd_refl n⟩
  ·have : ∃ d, d ∣ n ∧ d ≠ 1 ∧ d ≠ n := by
    by_cases hx : ∃ d, d ∣ n ∧ d ≠ 1 ∧ d ≠ n
    ·exact hx
    ·refine absurd ⟨h, fun d hd => ?_⟩ hp
     by_cases h1 : d = 1
     ·exact .inl h1
     ·by_cases h2 : d = n
      ·exact .inr h2
      ·exact absurd ⟨d, hd, h1, h2⟩ hx
   obtain ⟨d, hd, h1, h2⟩ := this;have hle := Nat.le_of_dvd (by omega) hd
   have h0 : d ≠ 0 := by rintro rfl; rw [Nat.zero_dvd] at hd; omega
   obtain ⟨r, hr, hrd⟩ := ih d (by omega) (by omega)
   exact ⟨r, hr, Nat.dvd_trans hrd hd⟩
theorem zek {n : Nat} (h2 : 2 ≤ n) (hn : ¬ Pr n) : ∃ r, Pr r ∧ r ∣ n ∧ r * r ≤ n := by
 have : ∃ d, d ∣ n ∧ d ≠ 1 ∧ d ≠ n := by
  by_cases hx : ∃ d, d ∣ n ∧ d ≠ 1 ∧ d ≠ n
  ·exact hx
  ·refine absurd ⟨h2, fun d hd => ?_⟩ hn
   by_cases h1 : d = 1
   ·exact .inl h1
   ·by_cases h3 : d = n
    ·exact .inr h3
    ·exact absurd ⟨d, hd, h1, h3⟩ hx
 obtain ⟨d, ⟨e, he⟩, h1, h3⟩ := this;have hd0 : d ≠ 0 := by rintro rfl; simp at he; omega
 have he0 : e ≠ 0 := by rintro rfl; simp at he; omega
 have he1 : e ≠ 1 := by rintro rfl; simp at he; omega
 have key : ∀ x y : Nat, n = x * y → 2 ≤ x → x ≤ y → ∃ r, Pr r ∧ r ∣ n ∧ r * r ≤ n := by
  intro x y hxy h4 h5;obtain ⟨r, hr, hrx⟩ := z16z x h4;have hrle := Nat.le_of_dvd (by omega) hrx
  refine ⟨r, hr, Nat.dvd_trans hrx ⟨y, hxy⟩, ?_⟩;rw [hxy];exact Nat.mul_le_mul hrle (by omega)
 by_cases hle : d ≤ e
 ·exact key d e he (by omega) hle
 ·exact key e d (by rw [he, Nat.mul_comm]) (by omega) (by omega)
theorem zms {a r n x : Nat} (h : a % n = x) (hr : r ∣ n) : a % r = x % r := by
 rw [← h]; exact (Nat.mod_mod_of_dvd a hr).symm
theorem zld {a r : Nat} (h : a % r = 1 % r) (k : Nat) : a ^ k % r = 1 % r := by
 rw [Nat.pow_mod, h, ← Nat.pow_mod, Nat.one_pow]
theorem z1ds {a r : Nat} : ∀ x y : Nat, a ^ x % r = 1 % r → a ^ y % r = 1 % r → a ^ (Nat.gcd x y) % r = 1 % r := by
 intro x y
 induction x, y using Nat.gcd.induction with
 | H0 n => intro _ h; simpa using h
 | H1 m n _ ih =>
  intro h1 h2;rw [Nat.gcd_rec];refine ih ?_ h1;have e : a ^ n = a ^ (n % m) * (a ^ m) ^ (n / m) := by
   rw [← Nat.pow_mul, ← Nat.pow_add, Nat.mod_add_div]
  rw [e, Nat.mul_mod, zld h1, ← Nat.mul_mod, Nat.mul_one] at h2;exact h2
theorem zj2 {N q a m r x : Nat} (hq : Pr q) (hN : N - 1 = q * m) (hqm : ¬ q ∣ m) (h1 : a ^ (N - 1) % N = 1) (hx : a ^ m % N = x) (h2 : Nat.gcd (x - 1) N = 1) (hx1 : 1 ≤ x)
  (hr : Pr r) (hrN : r ∣ N) : q ∣ r - 1 := by
 by_cases hd : q ∣ r - 1
 ·exact hd
 exfalso;have hr2 := hr.1;have n1 : 1 % r = 1 := Nat.mod_eq_of_lt (by omega)
 have e1 : a ^ (N - 1) % r = 1 % r := zms h1 hrN;have hra : ¬ r ∣ a := by
  intro hc;have hN1 : N - 1 ≠ 0 := by
   intro h0;have : q * m = 0 := by omega
   rcases Nat.mul_eq_zero.1 this with h | h
   ·have := hq.1; omega
   ·subst h; exact hqm (Nat.dvd_zero q)
  have : r ∣ a ^ (N - 1) := Nat.dvd_trans hc ⟨a ^ (N - 1 - 1), by rw [Nat.mul_comm, ← Nat.pow_succ]; congr 1; omega⟩
  rw [Nat.mod_eq_zero_of_dvd this, n1] at e1;omega
 have e2 : a ^ (r - 1) % r = 1 % r := by rw [fermat1 hr hra, n1]
 have e3 := z1ds _ _ e1 e2;have cop : Nat.Coprime (Nat.gcd (N - 1) (r - 1)) q :=
  (hq.cop fun h => hd (Nat.dvd_trans h (Nat.gcd_dvd_right _ _))).symm
 have hg : Nat.gcd (N - 1) (r - 1) ∣ m := cop.dvd_of_dvd_mul_left (by rw [← hN]; exact Nat.gcd_dvd_left _ _)
 obtain ⟨c, hc⟩ := hg;have e4 : a ^ m % r = 1 % r := by rw [hc, Nat.pow_mul]; exact zld e3 c
 have e5 : x % r = 1 % r := by rw [← e4, zms hx hrN]
 have : r ∣ x - 1 := Nat.dvd_of_mod_eq_zero (Nat.sub_mod_eq_zero_of_mod_eq e5);have : r ∣ Nat.gcd (x - 1) N := Nat.dvd_gcd this hrN;rw [h2] at this;have := Nat.le_of_dvd (by omega) this
 omega
theorem z1j8 {N q a m x : Nat} (h : 2 ≤ N) (hq : Pr q) (hN : N - 1 = q * m) (hqm : ¬ q ∣ m) (h1 : a ^ (N - 1) % N = 1) (hx : a ^ m % N = x) (h2 : Nat.gcd (x - 1) N = 1) (hx1 : 1 ≤ x)
  (hb : N < q * q) : Pr N := by
 by_cases hp : Pr N
 ·exact hp
 exfalso;obtain ⟨r, hr, hrN, hle⟩ := zek h hp;have := zj2 hq hN hqm h1 hx h2 hx1 hr hrN;have hr2 := hr.1;have h3 := Nat.le_of_dvd (by omega) this
 have : q * q ≤ r * r := Nat.mul_le_mul (by omega) (by omega)
 omega
theorem z1j3 {N q m x q' m' x' a : Nat} (h : 2 ≤ N) (hq : Pr q) (hN : N - 1 = q * m) (hqm : ¬ q ∣ m) (hq' : Pr q') (hN' : N - 1 = q' * m') (hqm' : ¬ q' ∣ m') (hne : ¬ q ∣ q') (h1 : a ^ (N - 1) % N = 1)
  (hx : a ^ m % N = x) (h2 : Nat.gcd (x - 1) N = 1) (hx1 : 1 ≤ x) (hx' : a ^ m' % N = x') (h2' : Nat.gcd (x' - 1) N = 1) (hx1' : 1 ≤ x') (hb : N < q * q' * (q * q')) : Pr N := by
 by_cases hp : Pr N
 ·exact hp
 exfalso;obtain ⟨r, hr, hrN, hle⟩ := zek h hp;have d1 := zj2 hq hN hqm h1 hx h2 hx1 hr hrN;have d2 := zj2 hq' hN' hqm' h1 hx' h2' hx1' hr hrN;have hr2 := hr.1;have h3 := Nat.le_of_dvd (by omega) (Nat.Coprime.mul_dvd_of_dvd_of_dvd (hq.cop hne) d1 d2)
 have : q * q' * (q * q') ≤ r * r := Nat.mul_le_mul (by omega) (by omega)
 omega
def force {α : Type} (n : Nat) (k : Nat → α) : α := match n with
 | 0 => k 0
 | m + 1 => k (m + 1)
theorem force_eq {α : Type} (n : Nat) (k : Nat → α) : force n k = k n := by cases n <;> rfl
def pm (n : Nat) : Nat → Nat → Nat → Nat → Nat
 | 0, _, _, acc => acc
 | f + 1, b, e, acc => force (b * b % n) fun b' => force (e / 2) fun e' => force (if e % 2 = 1 then acc * b % n else acc) fun acc' => pm n f b' e' acc'
theorem z1bc (n : Nat) : ∀ (f b e acc : Nat), e < 2 ^ f → pm n f b e acc % n = acc * b ^ e % n
 | 0, b, e, acc, h => by
  have : e = 0 := by simpa using h
  subst this;simp [pm]
 | f + 1, b, e, acc, h => by
  simp only [pm, force_eq];rw [z1bc n f _ _ _ (by rw [Nat.pow_succ] at h; omega)]
  have e1 : b ^ e = (b * b) ^ (e / 2) * b ^ (e % 2) := by
   rw [← Nat.pow_two, ← Nat.pow_mul, ← Nat.pow_add, Nat.div_add_mod]
  rw [e1, Nat.mul_mod, ← Nat.pow_mod, ← Nat.mul_mod];have : e % 2 = 0 ∨ e % 2 = 1 := by omega
  rcases this with h0 | h0
  ·rw [h0, if_neg (by decide), Nat.pow_zero, Nat.mul_one]
  ·rw [h0, if_pos rfl, Nat.pow_one, Nat.mul_mod, Nat.mod_mod, ← Nat.mul_mod]
   congr 1
   grind
theorem pm_pow {n f b e x : Nat} (h : e < 2 ^ f) (hx : pm n f b e 1 % n = x) : b ^ e % n = x := by
 rw [← hx, z1bc n f b e 1 h, Nat.one_mul]
theorem zbc {N q a m x f : Nat} (h : 2 ≤ N) (hq : Pr q) (hN : N - 1 = q * m) (hqm : ¬ q ∣ m) (hf : N - 1 < 2 ^ f) (hf' : m < 2 ^ f) (h1 : pm N f a (N - 1) 1 % N = 1) (hx : pm N f a m 1 % N = x) (h2 : Nat.gcd (x - 1) N = 1) (hx1 : 1 ≤ x)
  (hb : N < q * q) : Pr N := z1j8 h hq hN hqm (pm_pow hf h1) (pm_pow hf' hx) h2 hx1 hb
theorem zi8 {N q m x q' m' x' a f : Nat} (h : 2 ≤ N) (hq : Pr q) (hN : N - 1 = q * m) (hqm : ¬ q ∣ m) (hq' : Pr q') (hN' : N - 1 = q' * m') (hqm' : ¬ q' ∣ m') (hne : ¬ q ∣ q') (hf : N - 1 < 2 ^ f) (hf1 : m < 2 ^ f) (hf2 : m' < 2 ^ f) (h1 : pm N f a (N - 1) 1 % N = 1)
  (hx : pm N f a m 1 % N = x) (h2 : Nat.gcd (x - 1) N = 1) (hx1 : 1 ≤ x) (hx' : pm N f a m' 1 % N = x') (h2' : Nat.gcd (x' - 1) N = 1) (hx1' : 1 ≤ x') (hb : N < q * q' * (q * q')) : Pr N :=
 z1j3 h hq hN hqm hq' hN' hqm' hne (pm_pow hf h1) (pm_pow hf1 hx) h2 hx1 (pm_pow hf2 hx') h2' hx1' hb
def zsm (n : Nat) : Nat → Bool
 | 0 => true
 | k + 1 => (n % (k + 2) != 0) && zsm n k
theorem zuc {n : Nat} : ∀ k, zsm n k = true → ∀ d, 2 ≤ d → d < k + 2 → ¬ d ∣ n
 | 0, _, d, h1, h2 => by omega
 | k + 1, h, d, h1, h2 => by
  simp only [zsm, Bool.and_eq_true, bne_iff_ne, ne_eq] at h
  by_cases e : d = k + 2
  ·subst e; intro hd; exact h.1 (Nat.mod_eq_zero_of_dvd hd)
  ·exact zuc k h.2 d h1 (by omega)
theorem z8q {n : Nat} (k : Nat) (h2 : 2 ≤ n) (h : zsm n k = true) (hk : n < (k + 2) * (k + 2)) : Pr n := by
 by_cases hp : Pr n
 ·exact hp
 exfalso;obtain ⟨r, hr, hrn, hle⟩ := zek h2 hp;have hlt : r < k + 2 := by
  apply Nat.lt_of_not_le;intro hc;have := Nat.mul_le_mul hc hc;omega
 exact zuc k h r hr.1 hlt hrn
end Go.Num
namespace Go.Num
theorem z1g8 : Pr 127 := z8q 11 (by decide) (by kernel_rfl) (by decide)
theorem z10a : Pr 8574133 := z8q 2928 (by decide) (by kernel_rfl) (by decide)
theorem z15x : Pr 569003 := z8q 754 (by decide) (by kernel_rfl) (by decide)
theorem z14c : Pr 430751 := z8q 656 (by decide) (by kernel_rfl) (by decide)
theorem z1cg : Pr 4153 := z8q 64 (by decide) (by kernel_rfl) (by decide)
theorem zi0 : Pr 1919519569386763 :=
 zi8 (q := 8574133) (q' := 127) (a := 2) (m := 223873314) (m' := 15114327318006) (x := 1059928654987441) (x' := 576774792492622) (f := 52) (by decide) z10a (by decide) (by decide) z1g8 (by decide) (by decide) (by decide) (by decide) (by decide) (by decide) (by kernel_rfl) (by kernel_rfl) (by kernel_rfl) (by decide) (by kernel_rfl) (by kernel_rfl) (by decide) (by decide)
theorem zrz : Pr 2773320623 :=
 zbc (q := 569003) (a := 2) (m := 4874) (x := 2039232613) (f := 33) (by decide) z15x (by decide) (by decide) (by decide) (by decide) (by kernel_rfl) (by kernel_rfl) (by kernel_rfl) (by decide) (by decide)
theorem zp2 : Pr 72106336199 :=
 zbc (q := 2773320623) (a := 2) (m := 26) (x := 67108864) (f := 38) (by decide) zrz (by decide) (by decide) (by decide) (by decide) (by kernel_rfl) (by kernel_rfl) (by kernel_rfl) (by decide) (by decide)
theorem z6s : Pr 75445702479781427272750846543864801 :=
 zi8 (q := 1919519569386763) (q' := 72106336199) (a := 2) (m := 39304471641247389600) (m' := 1046311689884858398375200) (x := 56747016255153332959347766392083459) (x' := 71619851993489548214160924360205394) (f := 117) (by decide) zi0 (by decide) (by decide) zp2 (by decide) (by decide) (by decide) (by decide) (by decide) (by decide) (by kernel_rfl) (by kernel_rfl) (by kernel_rfl) (by decide) (by kernel_rfl) (by kernel_rfl) (by decide) (by decide)
theorem zhg : Pr 31757755568855353 :=
 zi8 (q := 430751) (q' := 4153) (a := 2) (m := 73726481352) (m' := 7646943310584) (x := 15280470251845350) (x' := 28256283979054930) (f := 56) (by decide) z14c (by decide) (by decide) z1cg (by decide) (by decide) (by decide) (by decide) (by decide) (by decide) (by kernel_rfl) (by kernel_rfl) (by kernel_rfl) (by decide) (by kernel_rfl) (by kernel_rfl) (by decide) (by decide)
theorem z30 : Pr 74058212732561358302231226437062788676166966415465897661863160754340907 :=
 zi8 (q := 75445702479781427272750846543864801) (q' := 31757755568855353) (a := 2) (m := 981609426360740691344999861639072106) (m' := 2331972502653487852620185443007392165117953542933313402) (x := 69490809710348678725736597923071784769591275419387514694139338586948360) (x' := 50366660687963342066214195241331738400016478712605795091965648721912165) (f := 237) (by decide) z6s (by decide) (by decide) zhg (by decide) (by decide) (by decide) (by decide) (by decide) (by decide) (by kernel_rfl) (by kernel_rfl) (by kernel_rfl) (by decide) (by kernel_rfl) (by kernel_rfl) (by decide) (by decide)
theorem pr_57896044618658097711785492504343953926634992332820282019728792003956564819949 : Pr 57896044618658097711785492504343953926634992332820282019728792003956564819949 :=
 zbc (q := 74058212732561358302231226437062788676166966415465897661863160754340907) (a := 2) (m := 781764) (x := 427094198651976259540344842774561673889945192655078505504941250475370961481) (f := 256) (by decide) z30 (by decide) (by decide) (by decide) (by decide) (by kernel_rfl) (by kernel_rfl) (by kernel_rfl) (by decide) (by decide)
end Go.Num
namespace Go.Num
theorem z134 : Pr 1224481 := z8q 1106 (by decide) (by kernel_rfl) (by decide)
theorem z13w : Pr 531581 := z8q 729 (by decide) (by kernel_rfl) (by decide)
theorem zi1 : Pr 1257559732178653 :=
 zi8 (q := 1224481) (q' := 531581) (a := 2) (m := 1027014492) (m' := 2365697292) (x := 1252739704402215) (x' := 1139842034583224) (f := 51) (by decide) z134 (by decide) (by decide) z13w (by decide) (by decide) (by decide) (by decide) (by decide) (by decide) (by kernel_rfl) (by kernel_rfl) (by kernel_rfl) (by decide) (by kernel_rfl) (by kernel_rfl) (by decide) (by decide)
theorem zed : Pr 4434155615661930479 :=
 zbc (q := 1257559732178653) (a := 2) (m := 3526) (x := 415787812636281767) (f := 62) (by decide) zi1 (by decide) (by decide) (by decide) (by decide) (by kernel_rfl) (by kernel_rfl) (by kernel_rfl) (by decide) (by decide)
theorem z9l : Pr 172054593956031949258510691 :=
 zbc (q := 4434155615661930479) (a := 2) (m := 38802110) (x := 81982237619807054769897707) (f := 88) (by decide) zed (by decide) (by decide) (by decide) (by decide) (by kernel_rfl) (by kernel_rfl) (by kernel_rfl) (by decide) (by decide)
theorem z5q : Pr 19757330305831588566944191468367130476339 :=
 zbc (q := 172054593956031949258510691) (a := 2) (m := 114831751082918) (x := 9148758478138211201771971577098600188172) (f := 134) (by decide) z9l (by decide) (by decide) (by decide) (by decide) (by kernel_rfl) (by kernel_rfl) (by kernel_rfl) (by decide) (by decide)
theorem z5c : Pr 276602624281642239937218680557139826668747 :=
 zbc (q := 19757330305831588566944191468367130476339) (a := 2) (m := 14) (x := 16384) (f := 138) (by decide) z5q (by decide) (by decide) (by decide) (by decide) (by kernel_rfl) (by kernel_rfl) (by kernel_rfl) (by decide) (by decide)
theorem pr_7237005577332262213973186563042994240857116359379907606001950938285454250989 : Pr 7237005577332262213973186563042994240857116359379907606001950938285454250989 :=
 zbc (q := 276602624281642239937218680557139826668747) (a := 2) (m := 26163907866482859529727157400808004) (x := 2975531125133123119648879457563281269120703404158613135195788908093573672641) (f := 253) (by decide) z5c (by decide) (by decide) (by decide) (by decide) (by kernel_rfl) (by kernel_rfl) (by kernel_rfl) (by decide) (by decide)
end Go.Num