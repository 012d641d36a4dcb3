/- The abstract layer (third state), part A: what calls come to, and the frame of a call: what a callee does that owns nothing of old memory. -/
import Derived.Test.YtfjmpdoidkblcaaDoorVK
set_option linter.unusedSimpArgs false
set_option linter.unusedVariables false
namespace Go.V
open Go
noncomputable section

/-- What a call comes to: a value and the entries that it made, by cases. -/
inductive Out where
  | ret (v : AV) (H : Heap)
  | alt (b : Bool) (x y : Out)
  deriving Inhabited

def Out.has : Out → AV → Heap → Prop
  | .ret v H, v', H' => v' = v ∧ H' = H
  | .alt b x y, v', H' => match b with
    | true => x.has v' H'
    | false => y.has v' H'

def refsE (n : Nat) : Ent → Bool
  | .blk c _ => refsL n c
  | .grow _ rows _ => refsL n rows
  | .res => false
  | _ => true
def renE (σ : Nat → Nat) : Ent → Ent
  | .blk c f => .blk (renL σ c) f
  | .grow k rows f => .grow k (renL σ rows) f
  | e => e
def Out.okB : Out → Bool
  | .ret v H => refsA H.length v && H.all (refsE H.length)
  | .alt _ x y => x.okB && y.okB

mutual
/-- Nothing that hangs on what nobody writes. -/
def nvA : AV → Bool
  | .vec8 _ l => l.isEmpty
  | .vec _ _ rows => rows.isEmpty
  | .vp _ _ => false
  | .vpx _ _ _ _ => false
  | .fn _ a b => nvL a && nvL b
  | .agg l => nvL l
  | .tup l => nvL l
  | _ => true
def nvL : List AV → Bool
  | [] => true
  | a :: as => nvA a && nvL as
end
def nvE : Ent → Bool
  | .blk c _ => nvL c
  | .grow _ rows _ => nvL rows
  | _ => true

/-- Entries with numbers from one on. -/
def newsFrom (σ : Nat → Nat) (k : Nat) : Heap → List (Nat × Ent)
  | [] => []
  | e :: r => (k, renE σ e) :: newsFrom σ (k + 1) r
def updH (H : Heap) : List (Nat × Ent) → Heap
  | [] => H
  | (i, e) :: r => updH (H.set i e) r
def shift (n : Nat) (i : Nat) : Nat := i + n
def isRes (H : Heap) (n : Nat) : Bool := match H[n]? with
  | some .res => true
  | _ => false
/-- So many entries are kept from one number on. -/
def slotsOk (H : Heap) (nid : Nat) : Heap → Bool
  | [] => true
  | _ :: r => isRes H nid && slotsOk H (nid + 1) r

theorem isRes_iff {H : Heap} {n : Nat} : isRes H n = true ↔ H[n]? = some .res := by
  unfold isRes
  constructor
  · intro h; split at h
    · assumption
    · simp at h
  · intro h; rw [h]

theorem slotsOk_iff {H : Heap} : ∀ {H0 : Heap} {nid : Nat}, slotsOk H nid H0 = true ↔ ∀ j, j < H0.length → H[nid + j]? = some .res
  | [], nid => by simp [slotsOk]
  | e :: r, nid => by
    simp only [slotsOk, Bool.and_eq_true, isRes_iff, slotsOk_iff (H0 := r)]
    constructor
    · rintro ⟨h1, h2⟩ j hj
      cases j with
      | zero => simpa using h1
      | succ j => have := h2 j (by simpa using hj); rwa [show nid + 1 + j = nid + (j + 1) by omega] at this
    · intro h
      refine ⟨by simpa using h 0 (by simp), fun j hj => ?_⟩
      have := h (j + 1) (by simpa using hj)
      rwa [show nid + (j + 1) = nid + 1 + j by omega] at this

theorem updH_len : ∀ (u : List (Nat × Ent)) (H : Heap), (updH H u).length = H.length
  | [], H => rfl
  | (i, e) :: r, H => by rw [updH, updH_len r]; simp

theorem newsFrom_get (σ : Nat → Nat) : ∀ (H0 H : Heap) (k i : Nat), k + H0.length ≤ H.length →
    (updH H (newsFrom σ k H0))[i]? = if k ≤ i ∧ i < k + H0.length then (H0[i - k]?).map (renE σ) else H[i]?
  | [], H, k, i, _ => by
    have : ¬ (k ≤ i ∧ i < k + ([] : Heap).length) := by simp only [List.length_nil]; omega
    rw [if_neg this]; rfl
  | e :: r, H, k, i, hk => by
    simp only [List.length_cons] at hk
    rw [newsFrom, updH, newsFrom_get σ r _ (k + 1) i (by simp; omega)]
    by_cases h1 : i = k
    · subst h1
      rw [if_neg (by omega), if_pos (by simp)]
      simp [show i < H.length by omega]
    · by_cases h2 : k + 1 ≤ i ∧ i < k + 1 + r.length
      · rw [if_pos h2, if_pos (by simp; omega)]
        rw [show i - k = (i - (k + 1)) + 1 by omega]
        simp
      · rw [if_neg h2, if_neg (by simp; omega), List.getElem?_set_ne (by omega)]

section nv
variable {ρ : Rho} {I I' : Imm} {w : World}
mutual
theorem R_nv : ∀ (a : AV) (xs : List Value), nvA a = true → R ρ I w a xs → R ρ I' w a xs
  | .any, _, _, h => h
  | .raw _, _, _, h => h
  | .int _ _, _, _, h => h
  | .u8 _, _, _, h => h
  | .u32 _, _, _, h => h
  | .u64 _, _, _, h => h
  | .bool _, _, _, h => h
  | .str _, _, _, h => h
  | .b8 _ _, _, _, h => h
  | .w32 _ _, _, _, h => h
  | .w64 _ _, _, _, h => h
  | .ptr _ _, _, _, h => h
  | .pix _ _ _ _, _, _, h => h
  | .sl _ _ _ _, _, _, h => h
  | .vec8 _ l, _, hn, ⟨v, h0, a, cap, h1, h2, h3, h4⟩ => by
    simp only [nvA, List.isEmpty_iff] at hn
    subst hn
    exact ⟨v, h0, a, cap, h1, h2, h3, .inl rfl⟩
  | .vec _ _ rows, _, hn, ⟨v, h0, h1, vs, h2, a, cap, k1, k2, k3, k4⟩ => by
    simp only [nvA, List.isEmpty_iff] at hn
    subst hn
    cases h2
    exact ⟨v, h0, h1, [], rfl, a, cap, k1, k2, k3, .inl rfl⟩
  | .vp _ _, _, hn, _ => by simp [nvA] at hn
  | .vpx _ _ _ _, _, hn, _ => by simp [nvA] at hn
  | .fn _ first caps, _, hn, ⟨v, h0, x, y, h1, h2, h3⟩ => by
    simp only [nvA, Bool.and_eq_true] at hn
    exact ⟨v, h0, x, y, h1, RV_nv first _ hn.1 h2, RV_nv caps _ hn.2 h3⟩
  | .agg l, _, hn, h => RL_nv l _ (by simpa [nvA] using hn) h
  | .tup l, _, hn, ⟨v, h0, cs, h1, h2⟩ => ⟨v, h0, cs, h1, RV_nv l _ (by simpa [nvA] using hn) h2⟩
theorem RL_nv : ∀ (l : List AV) (xs : List Value), nvL l = true → RL ρ I w l xs → RL ρ I' w l xs
  | [], _, _, h => h
  | a :: as, _, hn, ⟨ys, zs, h0, h1, h2⟩ => by
    simp only [nvL, Bool.and_eq_true] at hn
    exact ⟨ys, zs, h0, R_nv a ys hn.1 h1, RL_nv as zs hn.2 h2⟩
theorem RV_nv : ∀ (l : List AV) (vs : List Value), nvL l = true → RV ρ I w l vs → RV ρ I' w l vs
  | [], _, _, h => h
  | a :: as, _, hn, ⟨x, xs, h0, h1, h2⟩ => by
    simp only [nvL, Bool.and_eq_true] at hn
    exact ⟨x, xs, h0, h1.imp fun ys => R_nv a ys hn.1, RV_nv as xs hn.2 h2⟩
end
end nv

section
variable {P : Program} (G : Env P)

/-- A call that takes plain values; what it comes to, with the entries that it made. -/
structure HCall (f : FuncId) (args : List AV) (out : Out) : Prop where
  pa : pureL args = true
  po : out.okB = true
  call : ACall G f args [] out.has
end

theorem Out.ok_has : ∀ {out : Out} {v : AV} {H : Heap}, out.okB = true → out.has v H → refsA H.length v = true ∧ ∀ e ∈ H, refsE H.length e = true
  | .ret v H, v', H', ho, ⟨h1, h2⟩ => by
    subst h1; subst h2
    simpa [Out.okB] using ho
  | .alt b x y, v', H', ho, h => by
    simp only [Out.okB, Bool.and_eq_true] at ho
    cases b
    · exact Out.ok_has ho.2 h
    · exact Out.ok_has ho.1 h

section
variable {P : Program} {G : Env P} {ρ : Rho} {I : Imm} {H : Heap} {w : World}

theorem refsE_live {n : Nat} {e : Ent} (h : refsE n e = true) : e ≠ .res := by rintro rfl; simp [refsE] at h
theorem renE_live (σ : Nat → Nat) (e : Ent) : (renE σ e).live = e.live := by cases e <;> rfl
theorem renE_frz (σ : Nat → Nat) (e : Ent) : (renE σ e).frz = e.frz := by cases e <;> rfl
theorem renE_grows (σ : Nat → Nat) (e : Ent) : (renE σ e).grows = e.grows := by cases e <;> rfl
theorem renE_cells (σ : Nat → Nat) (e : Ent) : (renE σ e).cells = renL σ e.cells := by cases e <;> simp [renE, Ent.cells, renL, renA]
theorem renE_even (σ : Nat → Nat) (e : Ent) (h : e.even) : (renE σ e).even := by
  cases e <;> simp only [renE, Ent.even] <;> first | trivial | exact (even_renL σ).2 h

/-- A call, framed: what the caller owns is as it was; what the callee made stands from a number on that was kept for it. 'I1': what the callee takes for unwritten: what the caller lends it too. -/
theorem HCall.frame {f : FuncId} {args : List AV} {out : Out} (h : HCall G f args out) (c : Conc G.g ρ I H w) {I1 : Imm} (hI : ∀ b o, I b o → I1 b o) (hI2 : ∀ b o, I1 b o → b < w.heap.size)
    (hsame : (∀ b o, I1 b o → I b o) ∨ (∀ v H0, out.has v H0 → nvA v = true ∧ H0.all nvE = true)) (nid : Nat) (hslot : ∀ v H0, out.has v H0 → slotsOk H nid H0 = true)
    {vs : List Value} (r : RV ρ I1 w args vs) :
    Calls P f vs.toArray w fun e w' => ∃ x, e = .returned x ∧ ∃ (v : AV) (H0 : Heap) (ρ' : Rho) (I' : Imm), out.has v H0 ∧
      Good ρ I H w ρ' I' (updH H (newsFrom (shift nid) nid H0)) w' ∧ Conc G.g ρ' I' (updH H (newsFrom (shift nid) nid H0)) w' ∧ Mono ρ I w ρ' I' w' ∧ rel ρ' I' w' (renA (shift nid) v) x := by
  obtain ⟨hp, hv, hc⟩ := h
  have m1 : Mono (fun _ => none) I w (fun _ => none) I1 w := ⟨fun _ _ h => h, fun b o h => ⟨hI b o h, rfl⟩, fun b h => ⟨h, rfl⟩⟩
  have c1 : Conc G.g (fun _ => none) I1 [] w := 
    ⟨fun _ h => absurd rfl h, fun _ h => by simp at h, fun _ _ h => by simp at h, fun _ _ _ _ _ h => by simp at h, fun _ _ _ h => by simp at h, fun _ _ h => by simp at h,
      fun b o hb => ⟨hI2 b o hb, noMut⟩, fun n cs h => by
        obtain ⟨us, k1, k2⟩ := c.glob n cs h
        exact ⟨us, RL_mono m1 _ _ k1, k2.mono m1.imm⟩⟩
  refine (hc (fun _ => none) I1 w vs c1 (RV_pure hp r)).mono ?_
  rintro e w' ⟨x, rfl, ρ0, I0, v, H0, g, c', hr, hout⟩
  have hok := Out.ok_has hv hout
  have hsl := slotsOk_iff.1 (hslot v H0 hout)
  let ρ' : Rho := fun id => if nid ≤ id ∧ id < nid + H0.length then ρ0 (id - nid) else ρ id
  let I' : Imm := fun b o => I0 b o ∧ (b < w.heap.size → I b o)
  have hlt : H0.length = 0 ∨ nid + H0.length ≤ H.length := by
    rcases Nat.eq_zero_or_pos H0.length with h | h
    · exact .inl h
    · right
      have := (List.getElem?_eq_some_iff.1 (hsl (H0.length - 1) (by omega))).1
      omega
  have hget : ∀ i, (updH H (newsFrom (shift nid) nid H0))[i]? = if nid ≤ i ∧ i < nid + H0.length then (H0[i - nid]?).map (renE (shift nid)) else H[i]? := by
    intro i
    rcases hlt with h | h
    · have : H0 = [] := List.eq_nil_of_length_eq_zero h
      subst this
      have : ¬ (nid ≤ i ∧ i < nid + ([] : Heap).length) := by simp only [List.length_nil]; omega
      rw [if_neg this]; rfl
    · exact newsFrom_get _ H0 H nid i h
  have hρold : ∀ id y, ρ id = some y → ρ' id = some y := by
    intro id y hy
    by_cases hb : nid ≤ id ∧ id < nid + H0.length
    · have := c.res id (by have := hsl (id - nid) (by omega); rwa [show nid + (id - nid) = id by omega] at this)
      rw [this] at hy; simp at hy
    · show (if _ then _ else _) = _
      rw [if_neg hb]; exact hy
  have hρnew : ∀ j, j < H0.length → ρ' (nid + j) = ρ0 j := by
    intro j hj
    show (if _ then _ else _) = _
    rw [if_pos ⟨by omega, by omega⟩, Nat.add_sub_cancel_left]
  have hold : ∀ b, b < w.heap.size → w'.heap[b]? = w.heap[b]? := fun b hb => g.block b hb (fun _ => noMut)
  have cellold : ∀ b o, b < w.heap.size → w'.cell? ⟨b, o, none⟩ = w.cell? ⟨b, o, none⟩ := fun b o hb => g.cell b o hb noMut
  -- entries: old or new
  have split : ∀ i e1, (updH H (newsFrom (shift nid) nid H0))[i]? = some e1 → (∃ j e0, i = nid + j ∧ j < H0.length ∧ H0[j]? = some e0 ∧ e1 = renE (shift nid) e0) ∨ (H[i]? = some e1 ∧ ¬ (nid ≤ i ∧ i < nid + H0.length)) := by
    intro i e1 h1
    rw [hget i] at h1
    by_cases hb : nid ≤ i ∧ i < nid + H0.length
    · rw [if_pos hb] at h1
      left
      have hj : i - nid < H0.length := by omega
      refine ⟨i - nid, H0[i - nid], by omega, hj, by simp [hj], ?_⟩
      simp [hj] at h1
      exact h1.symm
    · rw [if_neg hb] at h1
      exact .inr ⟨h1, hb⟩
  have ρo : ∀ i, ¬ (nid ≤ i ∧ i < nid + H0.length) → ρ' i = ρ i := fun i hb => by show (if _ then _ else _) = _; rw [if_neg hb]
  have newb : ∀ (j : Nat) (e0 : Ent) (b : Nat), H0[j]? = some e0 → e0.live = true → ρ0 j = some (some b) → w.heap.size ≤ b := by
    intro j e0 b h1 h2 h3
    refine Nat.le_of_not_lt fun hb => ?_
    obtain ⟨id, e, q, _⟩ := g.own b hb ⟨j, e0, h1, h2, h3⟩
    simp at q
  have gd : Good ρ I H w ρ' I' (updH H (newsFrom (shift nid) nid H0)) w' := by
    refine ⟨fun id y h => .inl (hρold id y h), ?_, by rw [updH_len]; exact Nat.le_refl _, ?_, ?_, g.os, g.tape, g.out, g.size, fun b o hb _ => cellold b o hb, fun b hb _ => hold b hb, g.bs, ?_, ?_⟩
    · rintro id y hy ⟨e1, k1, k2⟩
      rcases split id e1 k1 with ⟨j, e0, rfl, hj, _, _⟩ | ⟨k, _⟩
      · have := c.res (nid + j) (hsl j hj)
        rw [this] at hy; simp at hy
      · exact ⟨e1, k, k2⟩
    · exact fun b o hb => ⟨g.imm b o (hI b o hb), fun _ => hb⟩
    · exact fun b o hb h => .inl (h.2 hb)
    · rintro b o hb ⟨i, e1, h1, h2, h3, h4⟩
      rcases split i e1 h1 with ⟨j, e0, rfl, hj, k1, rfl⟩ | ⟨k, k'⟩
      · rw [hρnew j hj] at h3
        rw [renE_live] at h2
        have := newb j e0 b k1 h2 h3
        omega
      · rw [ρo i k'] at h3
        exact ⟨i, e1, k, h2, h3, h4⟩
    · rintro b hb ⟨i, e1, h1, h2, h3⟩
      rcases split i e1 h1 with ⟨j, e0, rfl, hj, k1, rfl⟩ | ⟨k, k'⟩
      · rw [hρnew j hj] at h3
        rw [renE_live] at h2
        have := newb j e0 b k1 h2 h3
        omega
      · rw [ρo i k'] at h3
        exact ⟨i, e1, k, h2, h3⟩
  have m : Mono ρ I w ρ' I' w' := c.mono gd hρold
  -- from the callee's reading to the caller's
  have hR : ∀ (a : AV) (xs : List Value), refsA H0.length a = true → ((∀ b o, I1 b o → I b o) ∨ nvA a = true) → R ρ0 I0 w' a xs → R ρ' I' w' (renA (shift nid) a) xs := by
    intro a xs href hnv hr0
    have h1 : R ρ0 I' w' a xs := by
      rcases hnv with hs | hs
      · refine R_mono ⟨fun _ _ h => h, fun b o hb => ⟨⟨hb, fun hlt => ?_⟩, rfl⟩, fun b h => ⟨h, rfl⟩⟩ a xs hr0
        exact hs b o ((g.imm' b o hlt hb).resolve_right noMut)
      · exact R_nv a xs hs hr0
    refine (R_ren a xs).1 (R_refs (n := H0.length) (fun j hj => ?_) a xs href h1)
    show ρ' (j + nid) = ρ0 j
    rw [Nat.add_comm]; exact hρnew j hj
  have hRL : ∀ (l : List AV) (xs : List Value), refsL H0.length l = true → ((∀ b o, I1 b o → I b o) ∨ nvL l = true) → RL ρ0 I0 w' l xs → RL ρ' I' w' (renL (shift nid) l) xs := by
    intro a xs href hnv hr0
    have h1 : RL ρ0 I' w' a xs := by
      rcases hnv with hs | hs
      · refine RL_mono ⟨fun _ _ h => h, fun b o hb => ⟨⟨hb, fun hlt => ?_⟩, rfl⟩, fun b h => ⟨h, rfl⟩⟩ a xs hr0
        exact hs b o ((g.imm' b o hlt hb).resolve_right noMut)
      · exact RL_nv a xs hs hr0
    refine (RL_ren a xs).1 (RL_refs (n := H0.length) (fun j hj => ?_) a xs href h1)
    show ρ' (j + nid) = ρ0 j
    rw [Nat.add_comm]; exact hρnew j hj
  have hnvE : ∀ (j : Nat) (e0 : Ent), H0[j]? = some e0 → ((∀ b o, I1 b o → I b o) ∨ nvE e0 = true) := by
    intro j e0 h0
    rcases hsame with h | h
    · exact .inl h
    · have := (h v H0 hout).2
      rw [List.all_eq_true] at this
      exact .inr (this e0 (List.mem_of_getElem? h0))
  have hrE : ∀ (j : Nat) (e0 : Ent), H0[j]? = some e0 → refsE H0.length e0 = true := fun j e0 h0 => hok.2 e0 (List.mem_of_getElem? h0)
  refine ⟨x, rfl, v, H0, ρ', I', hout, gd, ⟨?_, ?_, ?_, ?_, ?_, ?_, ?_, ?_⟩, m, ?_⟩
  · intro id hne
    rw [updH_len]
    by_cases hb : nid ≤ id ∧ id < nid + H0.length
    · rcases hlt with h | h <;> omega
    · rw [ρo id hb] at hne; exact c.dom id hne
  · intro id h1
    rcases split id _ h1 with ⟨j, e0, rfl, hj, k1, k2⟩ | ⟨k, k'⟩
    · have := refsE_live (hrE j e0 k1)
      cases e0 <;> simp [renE] at k2 this
    · rw [ρo id k']; exact c.res id k
  · intro id b hb
    by_cases hbd : nid ≤ id ∧ id < nid + H0.length
    · have : ρ' id = ρ0 (id - nid) := by show (if _ then _ else _) = _; rw [if_pos hbd]
      rw [this] at hb
      exact c'.blt _ b hb
    · rw [ρo id hbd] at hb
      exact Nat.lt_of_lt_of_le (c.blt id b hb) g.size
  · intro i j b e1 e2 hi l1 hj l2 hbi hbj
    rcases split i e1 hi with ⟨ji, ei, rfl, hji, ki, rfl⟩ | ⟨ki, ki'⟩ <;> rcases split j e2 hj with ⟨jj, ej, rfl, hjj, kj, rfl⟩ | ⟨kj, kj'⟩
    · rw [hρnew ji hji] at hbi
      rw [hρnew jj hjj] at hbj
      rw [renE_live] at l1 l2
      rw [c'.inj ji jj b ei ej ki l1 kj l2 hbi hbj]
    · rw [hρnew ji hji] at hbi
      rw [ρo j kj'] at hbj
      rw [renE_live] at l1
      have := newb ji ei b ki l1 hbi
      have := c.blt j b hbj
      omega
    · rw [hρnew jj hjj] at hbj
      rw [ρo i ki'] at hbi
      rw [renE_live] at l2
      have := newb jj ej b kj l2 hbj
      have := c.blt i b hbi
      omega
    · rw [ρo i ki'] at hbi
      rw [ρo j kj'] at hbj
      exact c.inj i j b e1 e2 ki l1 kj l2 hbi hbj
  · intro id cs f h1
    rcases split id _ h1 with ⟨j, e0, rfl, hj, k1, k2⟩ | ⟨k, k'⟩
    · cases e0 with
      | blk c0 f0 =>
        simp only [renE, Ent.blk.injEq] at k2
        obtain ⟨rfl, rfl⟩ := k2
        obtain ⟨b, el, fr, us, q1, q2, q3, q4⟩ := c'.blk j c0 f k1
        exact ⟨b, el, fr, us, by rw [hρnew j hj]; exact q1, q2, hRL c0 us (hrE j _ k1) ((hnvE j _ k1).imp id (fun h => h)) q3, q4⟩
      | _ => simp [renE] at k2
    · obtain ⟨b, el, fr, us, q1, q2, q3, q4⟩ := c.blk id cs f k
      exact ⟨b, el, fr, us, by rw [ρo id k']; exact q1, by rw [hold b (c.blt id b q1)]; exact q2, RL_mono m _ _ q3, q4⟩
  · intro id e1 h1 hg
    rcases split id _ h1 with ⟨j, e0, rfl, hj, k1, rfl⟩ | ⟨k, k'⟩
    · rw [renE_grows] at hg
      obtain ⟨q, h⟩ := c'.grow j e0 k1 hg
      refine ⟨renE_even _ _ q, ?_⟩
      rw [renE_cells]
      rcases h with ⟨h2, h3⟩ | ⟨b, el, fr, us, rest, q1, q2, q3, q4⟩
      · exact .inl ⟨by rw [hρnew j hj]; exact h2, by rw [sz_renL]; exact h3⟩
      · refine .inr ⟨b, el, fr, us, rest, by rw [hρnew j hj]; exact q1, q2, hRL e0.cells us ?_ ?_ q3, q4⟩
        · have := hrE j _ k1
          cases e0 <;> simp_all [refsE, Ent.cells, Ent.grows, refsL, refsA]
        · refine (hnvE j _ k1).imp id fun h => ?_
          cases e0 <;> simp_all [nvE, Ent.cells, Ent.grows, nvL, nvA]
    · obtain ⟨q, h⟩ := c.grow id e1 k hg
      refine ⟨q, ?_⟩
      rcases h with h | ⟨b, el, fr, us, rest, q1, q2, q3, q4⟩
      · exact .inl ⟨by rw [ρo id k']; exact h.1, h.2⟩
      · exact .inr ⟨b, el, fr, us, rest, by rw [ρo id k']; exact q1, by rw [hold b (c.blt id b q1)]; exact q2, RL_mono m _ _ q3, q4⟩
  · rintro b o ⟨hb1, hb2⟩
    obtain ⟨h1, h2⟩ := c'.imm b o hb1
    refine ⟨h1, fun hm => ?_⟩
    obtain ⟨i, e1, q1, q2, q3, q4⟩ := hm
    rcases split i e1 q1 with ⟨j, e0, rfl, hj, k1, rfl⟩ | ⟨k, k'⟩
    · rw [hρnew j hj] at q3
      rw [renE_live] at q2
      rw [renE_frz] at q4
      exact h2 ⟨j, e0, k1, q2, q3, q4⟩
    · rw [ρo i k'] at q3
      have hb := c.blt i b q3
      exact (c.imm b o (hb2 hb)).2 ⟨i, e1, k, q2, q3, q4⟩
  · intro n cs hn
    obtain ⟨us, k1, k2⟩ := c.glob n cs hn
    exact ⟨us, RL_mono m.none _ _ k1, k2.mono m.imm⟩
  · refine valOf.imp (a := renA (shift nid) v) (fun ys hy => hy) ?_
    have hr' : valOf v x (fun xs => R ρ' I' w' (renA (shift nid) v) xs) := valOf.imp (fun ys hy => hR v ys hok.1 (hsame.imp id fun h => (h v H0 hout).1) hy) hr
    exact (valOf_ren (σ := shift nid) (Ra' := R ρ' I' w' (renA (shift nid) v)) fun xs => Iff.rfl).1 hr'
end
end
end Go.V
