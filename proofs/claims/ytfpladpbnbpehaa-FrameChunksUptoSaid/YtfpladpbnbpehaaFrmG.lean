import Derived.Test.YtfpladpbnbpehaaGFrmF
set_option linter.unusedSimpArgs false
set_option linter.unusedVariables false
namespace Go.Proofs.Ytfpladpbnbpehaa
open Go Go.V Go.Frm
set_option maxRecDepth 100000
theorem rest_any (a : List UInt8) : (fdF a).rest.length ≤ a.length + 903 := by
  cases h : (fdF a).e == 0 with
  | true => have := rest_len _ a (Nat.le_refl _) (by simpa using h); omega
  | false =>
    have key : ∀ (n : Nat) (a : List UInt8), a.length ≤ n → (fdF a).rest.length ≤ a.length := by
      intro n
      induction n with
      | zero =>
        intro a h
        have : a = [] := List.eq_nil_of_length_eq_zero (by omega)
        subst this; exact Nat.le_refl _
      | succ n ih =>
        intro a h
        rw [fdF_step]
        obtain ⟨S, hS⟩ : ∃ S, fdStep a = S := ⟨_, rfl⟩
        rw [hS]
        cases S with
        | inr fk =>
          obtain ⟨f, k⟩ := fk
          have := ih (a.drop k) (by rw [List.length_drop]; have := fdStep_pos hS; omega)
          rw [List.length_drop] at this
          show (Fed.pre _ _).rest.length ≤ _
          unfold Fed.pre
          cases (fdF (a.drop k)).e == 0 with
          | true => show (fdF (a.drop k)).rest.length ≤ _; omega
          | false => show (fdF (a.drop k)).rest.length ≤ _; omega
        | inl d =>
          unfold fdStep at hS
          repeat (split at hS; · (simp only [Sum.inl.injEq] at hS; subst hS; first | exact Nat.le_refl _ | exact Nat.zero_le _))
          cases hS
    have := key _ a (Nat.le_refl _); omega

theorem frameChunks_c (b : List UInt8) (hb : b.length ≤ 1048576) (n : Int) (_hn : -9223372036854775808 ≤ n ∧ n ≤ 9223372036854775807) :
    HCall Try.E 4 [.vec8 false b, .int .i64 n] (.ret (.bool true) []) := by
  refine HCall.of_walk (R := R0) (T := F3) (fun _ _ => .unroll 2) 5 rfl rfl ?_
  rw [fchunks_eq]
  dsimp only
  have hw : wr .i64 ((b.length : Int) + 1) = ((b.length + 1 : Nat) : Int) := by rw [wr_of (by omega) (by omega)]; rfl
  rw [hw]
  obtain ⟨k, hk, hkl⟩ : ∃ k : Nat, n % ((b.length + 1 : Nat) : Int) = k ∧ k ≤ b.length :=
    ⟨(n % ((b.length + 1 : Nat) : Int)).toNat, by have := Int.emod_nonneg n (b := ((b.length + 1 : Nat) : Int)) (by omega); omega, by have := Int.emod_lt_of_pos n (b := ((b.length + 1 : Nat) : Int)) (by omega); omega⟩
  rw [hk]
  have t1 : sliceL none (some ((k : Nat) : Int)) b = b.take k := by show b.take (Int.toNat _) = _; rw [Int.toNat_natCast]
  have t2 : sliceL (some ((k : Nat) : Int)) none b = b.drop k := by show b.drop (Int.toNat _) = _; rw [Int.toNat_natCast]
  have s1 : sliceOk none (some ((k : Nat) : Int)) b.length = true := by
    show (nnB _ && leB (Int.toNat _) _) = true
    rw [nnB_nat, Int.toNat_natCast, leB_of (by omega)]; rfl
  have s2 : sliceOk (some ((k : Nat) : Int)) none b.length = true := by
    show (nnB _ && leB (Int.toNat _) _) = true
    rw [nnB_nat, Int.toNat_natCast, leB_of (by omega)]; rfl
  rw [t1, t2, s1, s2, feed_nil, feed_nil, show List.take 1 (List.drop 0 [(97 : UInt8)]) = [97] from rfl, tells8, tells5]
  have hl1 : (b.take k).length = k := by rw [List.length_take]; omega
  have hl2 : (b.drop k).length = b.length - k := List.length_drop
  have hcut := fd_cut b k
  have hfeed := feed_cut b k
  have hr := rest_any (b.take k)
  have hf1 := fs_len _ (b.take k) (Nat.le_refl _)
  have hf2 := fs_len _ ((fdF (b.take k)).rest ++ b.drop k) (Nat.le_refl _)
  rw [List.length_append] at hf2
  rw [hl1] at hr hf1
  rw [hl2] at hf2
  rw [decide_eq_true (show (0 : Int) < _ by omega), decide_eq_true (show ((b.length + 1 : Nat) : Int) ≤ _ by omega), leB_of (a := 0 + b.length) (by omega), leB_of (a := 0 + (b.take k).length) (by omega), leB_of (a := (fdF (b.take k)).rest.length + _) (by omega)]
  generalize fdF (b.take k) = d1 at *
  show ite2 (d1.e != 0) _ _
  cases he : d1.e == 0 with
  | false =>
    rw [he, cond_false] at hcut
    have : (d1.e != 0) = true := by rw [bne, he]; rfl
    rw [this, hcut]
    show (Out.ret (AV.bool true) []).has (AV.bool (cond true (d1.e == d1.e) false)) []
    rw [beq_self_eq_true]
    exact ⟨rfl, rfl⟩
  | true =>
    rw [he, cond_true] at hcut
    have h0 : d1.e = 0 := by simpa using he
    have : (d1.e != 0) = false := by rw [bne, he]; rfl
    rw [this, hfeed h0, hcut, pre_e]
    generalize fdF (d1.rest ++ b.drop k) = d2 at *
    show ite2 (cond true (d2.e == d2.e) false) _ _
    rw [beq_self_eq_true]
    show ite2 (d2.e != 0) _ _
    cases he2 : d2.e == 0 with
    | false =>
      have : (d2.e != 0) = true := by rw [bne, he2]; rfl
      rw [this]
      exact ⟨rfl, rfl⟩
    | true =>
      have h2 : d2.e = 0 := by simpa using he2
      have : (d2.e != 0) = false := by rw [bne, he2]; rfl
      rw [this, pre_ok h2]
      dsimp only
      have hcat := catF_frs (a := d1.fs) (b := d2.fs) rfl (f := frs d1.fs) (g := frs d2.fs) (fun _ _ => rfl) (fun _ _ => rfl)
      have hla : (d1.fs ++ d2.fs).length = d1.fs.length + d2.fs.length := List.length_append
      rw [isFrs_frs (by omega), isFrs_iff.2 ⟨by omega, d1.fs ++ d2.fs, hla.symm, hcat⟩, frsOf_eq _ rfl (fun _ _ => rfl), frsOf_eq (d1.fs ++ d2.fs) hla.symm hcat, decide_eq_true rfl, leB_of (by omega), leB_of (by omega), beq_self_eq_true, beq_self_eq_true]
      exact ⟨rfl, rfl⟩
end Go.Proofs.Ytfpladpbnbpehaa
