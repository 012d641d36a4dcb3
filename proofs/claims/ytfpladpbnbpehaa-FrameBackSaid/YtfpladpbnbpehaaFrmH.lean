import Derived.Test.YtfpladpbnbpehaaFrmG
set_option linter.unusedSimpArgs false
set_option linter.unusedVariables false
namespace Go.Proofs.Ytfpladpbnbpehaa
open Go Go.V Go.Frm
set_option maxRecDepth 100000
theorem frameBack_c (l : List Raw3) (_hl : l.length ≤ maxLen ∧ ∀ r ∈ l, r.ok) (n : Int) (_hn : -9223372036854775808 ≤ n ∧ n ≤ 9223372036854775807) :
    HCall Try.E 3 [.vecr false 4 l.length (rawsF l), .int .i64 n] (.ret (.bool true) []) := by
  refine HCall.of_walk (R := R0) (T := F3) (fun f _ => bif f == 3 then backL (fsOf l) else .unroll 2) 5 rfl rfl ?_
  rw [fback_eq]
  dsimp only
  rw [rawsOf_eq, isRaws_iff.2 ⟨l, rfl, rfl⟩]
  have hF := fsOf_ok l
  have hFl := len_fsOf l
  have raws : ∀ x, x < l.length → leR (rawsF l x) (rawsF l x) := fun x _ => leR.refl rfl
  have rfs : ∀ x, x < min l.length 8 → leR (frs (fsOf l) x) (frs (fsOf l) x) := fun x _ => frs_leR _ x
  generalize fsOf l = F at *
  refine ⟨⟨0, by rw [Inv.upTo_int]; omega, ?_⟩, fun i hi => ?_⟩
  · repeat' apply And.intro
    all_goals first | rfl | trivial | exact raws | exact rfs
  rw [Inv.upTo_int] at hi
  rcases Nat.lt_or_ge i (min l.length 8) with hlt | hge
  · rw [ltI_of (by omega), inB_of (by omega) (by omega), Int.toNat_natCast]
    have hf : okF (F.getD i fr0) := by
      rw [List.getD_eq_getElem?_getD, List.getElem?_eq_getElem (by omega)]
      exact hF _ (List.getElem_mem _)
    have h0 : faultS (F.getD i fr0).kind (F.getD i fr0).id (F.getD i fr0).body = 0 := by rw [faultS_eq]; exact okF_fault hf
    have he : encS (F.getD i fr0).kind (F.getD i fr0).id (F.getD i fr0).body = enc (F.getD i fr0) := by rw [encS_eq]; rfl
    rw [h0, he]
    have hs := encs_succ F i (by omega)
    have hel := encs_len F hF (i + 1)
    rw [hs, List.length_append] at hel
    rw [leB_of (by omega), beq_self_eq_true]
    refine ⟨i + 1, ⟨Inv.up_lt (by omega), by rw [Inv.upTo_int]; omega⟩, ?_⟩
    have hw2 : wr .i64 ((i : Int) + 1) = ((i + 1 : Nat) : Int) := by rw [wr_of (by omega) (by omega)]; rfl
    rw [hw2, hs, List.length_append]
    repeat' apply And.intro
    all_goals first | rfl | trivial | exact raws | exact rfs
  · rw [ltI_no (by omega), ite2_false]
    have hi : i = min l.length 8 := by omega
    have hel := encs_len F hF i
    have hall := encs_all F i (by omega)
    have hL : fdF (encs F i) = ⟨F, [], 0⟩ := by rw [hall]; exact fd_encs F hF
    generalize encs F i = b at *
    have hw : wr .i64 ((b.length : Int) + 1) = ((b.length + 1 : Nat) : Int) := by rw [wr_of (by omega) (by omega)]; rfl
    rw [hw]
    obtain ⟨k, hk, hkl⟩ : ∃ k : Nat, n % ((b.length + 1 : Nat) : Int) = k ∧ k ≤ b.length :=
      ⟨(n % ((b.length + 1 : Nat) : Int)).toNat, by have := Int.emod_nonneg n (b := ((b.length + 1 : Nat) : Int)) (by omega); omega, by have := Int.emod_lt_of_pos n (b := ((b.length + 1 : Nat) : Int)) (by omega); omega⟩
    rw [hk]
    have u1 : hiN b.length (some ((k : Nat) : Int)) = k := Int.toNat_natCast _
    have u2 : hiN b.length none = b.length := rfl
    have u3 : loN (some ((k : Nat) : Int)) = k := Int.toNat_natCast _
    have u4 : loN none = 0 := rfl
    have s1 : sliceOk none (some ((k : Nat) : Int)) b.length = true := by
      show (nnB _ && leB (Int.toNat _) _) = true
      rw [nnB_nat, Int.toNat_natCast, leB_of (by omega)]; rfl
    have s2 : sliceOk (some ((k : Nat) : Int)) none b.length = true := by
      show (nnB _ && leB (Int.toNat _) _) = true
      rw [nnB_nat, Int.toNat_natCast, leB_of (by omega)]; rfl
    have fr : frzFree [(0, 0 + (k - 0))] (0 + k * 1) (b.length - k) = true := by
      show (leB (0 + k * 1 + (b.length - k)) 0 || leB (0 + (k - 0)) (0 + k * 1)) && true = true
      rw [leB_of (a := 0 + (k - 0)) (by omega), Bool.or_true]; rfl
    have t1 : List.take (k - 0) (List.drop (0 + 0 * 1) b) = b.take k := by rw [Nat.sub_zero]; rfl
    have t2 : List.take (b.length - k) (List.drop (0 + k * 1) b) = b.drop k := by
      rw [Nat.zero_add, Nat.mul_one, List.take_of_length_le (by rw [List.length_drop]; omega)]
    have t3 : List.take (k - 0) (List.drop 0 b) = b.take k := by rw [Nat.sub_zero]; rfl
    rw [u1, u2, u3, u4, s1, s2, fr, t1, t2, feed_nil, show List.take 1 (List.drop 0 [(97 : UInt8)]) = [97] from rfl, tells8, tells5]
    have hl1 : (b.take k).length = k := by rw [List.length_take]; omega
    have hl2 : (b.drop k).length = b.length - k := List.length_drop
    have hcut := fd_cut b k
    rw [hL] at hcut
    have hfeed := feed_cut b k
    have hr := rest_any (b.take k)
    have hf1 := fs_len _ (b.take k) (Nat.le_refl _)
    have hf2 := fs_len _ ((fdF (b.take k)).rest ++ b.drop k) (Nat.le_refl _)
    rw [List.length_append] at hf2
    rw [hl1] at hr hf1
    rw [hl2] at hf2
    rw [decide_eq_true (show (0 : Int) < _ by omega), decide_eq_true (show ((b.length + 1 : Nat) : Int) ≤ _ by omega), leB_of (a := 0 + (k - 0)) (by omega), leB_of (a := 0 + (b.take k).length) (by omega), leB_of (a := 0 + k * 1 + (b.length - k)) (by omega), leB_of (a := (fdF (b.take k)).rest.length + _) (by omega)]
    generalize fdF (b.take k) = d1 at *
    have he : d1.e = 0 := by
      cases h : d1.e == 0 with
      | true => simpa using h
      | false => rw [h, cond_false] at hcut; rw [← hcut] at h; simp at h
    rw [he, beq_self_eq_true, cond_true] at hcut
    rw [hfeed he, he]
    generalize fdF (d1.rest ++ b.drop k) = d2 at *
    have he2 : d2.e = 0 := by rw [← pre_e d2 d1.fs, ← hcut]
    rw [pre_ok he2] at hcut
    simp only [Fed.mk.injEq] at hcut
    obtain ⟨q1, q2, _⟩ := hcut
    rw [he2, ← q2]
    have hcat := catF_frs (a := d1.fs) (b := d2.fs) rfl (f := frs d1.fs) (g := frs d2.fs) (fun _ _ => rfl) (fun _ _ => rfl)
    have hla : (d1.fs ++ d2.fs).length = d1.fs.length + d2.fs.length := List.length_append
    have g1 : isFrs (d1.fs.length + d2.fs.length) (catF d1.fs.length (frs d1.fs) (frs d2.fs)) = true := isFrs_iff.2 ⟨by omega, d1.fs ++ d2.fs, hla.symm, hcat⟩
    have g2 : isFrs (min l.length 8) (frs F) = true := by rw [← hFl]; exact isFrs_frs (by omega)
    have g3 : frsOf (d1.fs.length + d2.fs.length) (catF d1.fs.length (frs d1.fs) (frs d2.fs)) = F := by rw [frsOf_eq (d1.fs ++ d2.fs) hla.symm hcat, ← q1]
    have g4 : frsOf (min l.length 8) (frs F) = F := frsOf_eq F hFl.symm (fun _ _ => rfl)
    rw [g1, g2, g3, g4, decide_eq_true rfl, leB_of (by omega), leB_of (by omega)]
    show cnd (d1.fs.length == d1.fs.length) _
    rw [beq_self_eq_true]
    exact ⟨rfl, rfl⟩
end Go.Proofs.Ytfpladpbnbpehaa
