/- The abstract layer (third state), part A: what calls come to, and the frame of a call: what a callee does that owns nothing of old memory. -/
import Derived.Test.YtcnnogimaikicaaDoorV2
import Derived.Deep.AppendSrc
import Derived.Laws.AppendOwn
import Derived.Laws.MakeOwn
import Derived.Great.BuildSlice
import Derived.Laws.IdiomCopy

set_option linter.unusedSimpArgs false
set_option linter.unusedVariables false
namespace Go.V
open Go
noncomputable section

/-- What a call comes to: a value and the entries that it made, by cases. -/
inductive Out where
  | ret (v : AV) (H : Heap)
  | alt (b : Bool) (x y : Out)
  deriving Inhabited

def Out.has : Out → AV → Heap → Prop
  | .ret v H, v', H' => v' = v ∧ H' = H
  | .alt b x y, v', H' => match b with
    | true => x.has v' H'
    | false => y.has v' H'

def refsE (n : Nat) : Ent → Bool
  | .blk c _ => refsL n c
  | .grow _ rows _ => refsL n rows
  | .res => false
  | _ => true
def renE (σ : Nat → Nat) : Ent → Ent
  | .blk c f => .blk (renL σ c) f
  | .grow k rows f => .grow k (renL σ rows) f
  | e => e
def Out.okB : Out → Bool
  | .ret v H => refsA H.length v && H.all (refsE H.length)
  | .alt _ x y => x.okB && y.okB

mutual
/-- Nothing that hangs on what nobody writes. -/
def nvA : AV → Bool
  | .vec8 _ l => l.isEmpty
  | .vec _ _ rows => rows.isEmpty
  | .vecr _ _ n _ => n == 0
  | .slv _ _ n _ => n == 0
  | .vp _ _ => false
  | .vpx _ _ _ _ => false
  | .fn _ a b => nvL a && nvL b
  | .agg l => nvL l
  | .tup l => nvL l
  | _ => true
def nvL : List AV → Bool
  | [] => true
  | a :: as => nvA a && nvL as
end
def nvE : Ent → Bool
  | .blk c _ => nvL c
  | .grow _ rows _ => nvL rows
  | _ => true

/-- Entries with numbers from one on. -/
def newsFrom (σ : Nat → Nat) (k : Nat) : Heap → List (Nat × Ent)
  | [] => []
  | e :: r => (k, renE σ e) :: newsFrom σ (k + 1) r
def updH (H : Heap) : List (Nat × Ent) → Heap
  | [] => H
  | (i, e) :: r => updH (H.set i e) r
def shift (n : Nat) (i : Nat) : Nat := i + n
def isRes (H : Heap) (n : Nat) : Bool := match H[n]? with
  | some .res => true
  | _ => false
/-- So many entries are kept from one number on. -/
def slotsOk (H : Heap) (nid : Nat) : Heap → Bool
  | [] => true
  | _ :: r => isRes H nid && slotsOk H (nid + 1) r

theorem isRes_iff {H : Heap} {n : Nat} : isRes H n = true ↔ H[n]? = some .res := by
  unfold isRes
  constructor
  · intro h; split at h
    · assumption
    · simp at h
  · intro h; rw [h]

theorem slotsOk_iff {H : Heap} : ∀ {H0 : Heap} {nid : Nat}, slotsOk H nid H0 = true ↔ ∀ j, j < H0.length → H[nid + j]? = some .res
  | [], nid => by simp [slotsOk]
  | e :: r, nid => by
    simp only [slotsOk, Bool.and_eq_true, isRes_iff, slotsOk_iff (H0 := r)]
    constructor
    · rintro ⟨h1, h2⟩ j hj
      cases j with
      | zero => simpa using h1
      | succ j => have := h2 j (by simpa using hj); rwa [show nid + 1 + j = nid + (j + 1) by omega] at this
    · intro h
      refine ⟨by simpa using h 0 (by simp), fun j hj => ?_⟩
      have := h (j + 1) (by simpa using hj)
      rwa [show nid + (j + 1) = nid + 1 + j by omega] at this

theorem updH_len : ∀ (u : List (Nat × Ent)) (H : Heap), (updH H u).length = H.length
  | [], H => rfl
  | (i, e) :: r, H => by rw [updH, updH_len r]; simp

theorem newsFrom_get (σ : Nat → Nat) : ∀ (H0 H : Heap) (k i : Nat), k + H0.length ≤ H.length →
    (updH H (newsFrom σ k H0))[i]? = if k ≤ i ∧ i < k + H0.length then (H0[i - k]?).map (renE σ) else H[i]?
  | [], H, k, i, _ => by
    have : ¬ (k ≤ i ∧ i < k + ([] : Heap).length) := by simp only [List.length_nil]; omega
    rw [if_neg this]; rfl
  | e :: r, H, k, i, hk => by
    simp only [List.length_cons] at hk
    rw [newsFrom, updH, newsFrom_get σ r _ (k + 1) i (by simp; omega)]
    by_cases h1 : i = k
    · subst h1
      rw [if_neg (by omega), if_pos (by simp)]
      simp [show i < H.length by omega]
    · by_cases h2 : k + 1 ≤ i ∧ i < k + 1 + r.length
      · rw [if_pos h2, if_pos (by simp; omega)]
        rw [show i - k = (i - (k + 1)) + 1 by omega]
        simp
      · rw [if_neg h2, if_neg (by simp; omega), List.getElem?_set_ne (by omega)]

section nv
variable {ρ : Rho} {I I' : Imm} {w : World}
mutual
theorem R_nv : ∀ (a : AV) (xs : List Value), nvA a = true → R ρ I w a xs → R ρ I' w a xs
  | .any, _, _, h => h
  | .raw _, _, _, h => h
  | .int _ _, _, _, h => h
  | .u8 _, _, _, h => h
  | .u32 _, _, _, h => h
  | .u64 _, _, _, h => h
  | .bool _, _, _, h => h
  | .str _, _, _, h => h
  | .b8 _ _, _, _, h => h
  | .w32 _ _, _, _, h => h
  | .w64 _ _, _, _, h => h
  | .n64 _ _, _, _, h => h
  | .ptr _ _, _, _, h => h
  | .pix _ _ _ _, _, _, h => h
  | .sl _ _ _ _, _, _, h => h
  | .vec8 _ l, _, hn, ⟨v, h0, a, cap, h1, h2, h3, h4⟩ => by
    simp only [nvA, List.isEmpty_iff] at hn
    subst hn
    exact ⟨v, h0, a, cap, h1, h2, h3, .inl rfl⟩
  | .vec _ _ rows, _, hn, ⟨v, h0, h1, vs, h2, a, cap, k1, k2, k3, k4⟩ => by
    simp only [nvA, List.isEmpty_iff] at hn
    subst hn
    cases h2
    exact ⟨v, h0, h1, [], rfl, a, cap, k1, k2, k3, .inl rfl⟩
  | .vecr _ _ n f, _, hn, ⟨v, h0, h1, vs, hl, h2, a, cap, k1, k2, k3, k4⟩ => by
    have hn : n = 0 := by simpa [nvA] using hn
    subst hn
    exact ⟨v, h0, h1, vs, hl, fun i hi => absurd hi (Nat.not_lt_zero _), a, cap, k1, k2, k3, .inl rfl⟩
  | .slv _ _ n f, _, hn, ⟨v, h0, h1, ⟨vs, hl, h2, a, cap, k1, k2, k3, k4⟩, h5⟩ => by
    have hn : n = 0 := by simpa [nvA] using hn
    subst hn
    exact ⟨v, h0, h1, ⟨vs, hl, fun i hi => absurd hi (Nat.not_lt_zero _), a, cap, k1, k2, k3, .inl rfl⟩, h5⟩
  | .vp _ _, _, hn, _ => by simp [nvA] at hn
  | .vpx _ _ _ _, _, hn, _ => by simp [nvA] at hn
  | .fn _ first caps, _, hn, ⟨v, h0, x, y, h1, h2, h3⟩ => by
    simp only [nvA, Bool.and_eq_true] at hn
    exact ⟨v, h0, x, y, h1, RV_nv first _ hn.1 h2, RV_nv caps _ hn.2 h3⟩
  | .agg l, _, hn, h => RL_nv l _ (by simpa [nvA] using hn) h
  | .tup l, _, hn, ⟨v, h0, cs, h1, h2⟩ => ⟨v, h0, cs, h1, RV_nv l _ (by simpa [nvA] using hn) h2⟩
theorem RL_nv : ∀ (l : List AV) (xs : List Value), nvL l = true → RL ρ I w l xs → RL ρ I' w l xs
  | [], _, _, h => h
  | a :: as, _, hn, ⟨ys, zs, h0, h1, h2⟩ => by
    simp only [nvL, Bool.and_eq_true] at hn
    exact ⟨ys, zs, h0, R_nv a ys hn.1 h1, RL_nv as zs hn.2 h2⟩
theorem RV_nv : ∀ (l : List AV) (vs : List Value), nvL l = true → RV ρ I w l vs → RV ρ I' w l vs
  | [], _, _, h => h
  | a :: as, _, hn, ⟨x, xs, h0, h1, h2⟩ => by
    simp only [nvL, Bool.and_eq_true] at hn
    exact ⟨x, xs, h0, h1.imp fun ys => R_nv a ys hn.1, RV_nv as xs hn.2 h2⟩
end
end nv

section
variable {P : Program} (G : Env P)

/-- A call that takes plain values; what it comes to, with the entries that it made. -/
structure HCall (f : FuncId) (args : List AV) (out : Out) : Prop where
  pa : pureL args = true
  po : out.okB = true
  call : ACall G f args [] out.has
end

theorem Out.ok_has : ∀ {out : Out} {v : AV} {H : Heap}, out.okB = true → out.has v H → refsA H.length v = true ∧ ∀ e ∈ H, refsE H.length e = true
  | .ret v H, v', H', ho, ⟨h1, h2⟩ => by
    subst h1; subst h2
    simpa [Out.okB] using ho
  | .alt b x y, v', H', ho, h => by
    simp only [Out.okB, Bool.and_eq_true] at ho
    cases b
    · exact Out.ok_has ho.2 h
    · exact Out.ok_has ho.1 h

section
variable {P : Program} {G : Env P} {ρ : Rho} {I : Imm} {H : Heap} {w : World}

theorem refsE_live {n : Nat} {e : Ent} (h : refsE n e = true) : e ≠ .res := by rintro rfl; simp [refsE] at h
theorem renE_live (σ : Nat → Nat) (e : Ent) : (renE σ e).live = e.live := by cases e <;> rfl
theorem renE_frz (σ : Nat → Nat) (e : Ent) : (renE σ e).frz = e.frz := by cases e <;> rfl
theorem renE_grows (σ : Nat → Nat) (e : Ent) : (renE σ e).grows = e.grows := by cases e <;> rfl
theorem renE_cells (σ : Nat → Nat) (e : Ent) : (renE σ e).cells = renL σ e.cells := by cases e <;> simp [renE, Ent.cells, renL, renA]
theorem renE_even (σ : Nat → Nat) (e : Ent) (h : e.even) : (renE σ e).even := by
  cases e <;> simp only [renE, Ent.even] <;> first | trivial | exact (even_renL σ).2 h

/-- A call, framed: what the caller owns is as it was; what the callee made stands from a number on that was kept for it. 'I1': what the callee takes for unwritten: what the caller lends it too. -/
theorem HCall.frame {f : FuncId} {args : List AV} {out : Out} (h : HCall G f args out) (c : Conc G.g ρ I H w) {I1 : Imm} (hI : ∀ b o, I b o → I1 b o) (hI2 : ∀ b o, I1 b o → b < w.heap.size)
    (hsame : (∀ b o, I1 b o → I b o) ∨ (∀ v H0, out.has v H0 → nvA v = true ∧ H0.all nvE = true)) (nid : Nat) (hslot : ∀ v H0, out.has v H0 → slotsOk H nid H0 = true)
    {vs : List Value} (r : RV ρ I1 w args vs) :
    Calls P f vs.toArray w fun e w' => ∃ x, e = .returned x ∧ ∃ (v : AV) (H0 : Heap) (ρ' : Rho) (I' : Imm), out.has v H0 ∧
      Good ρ I H w ρ' I' (updH H (newsFrom (shift nid) nid H0)) w' ∧ Conc G.g ρ' I' (updH H (newsFrom (shift nid) nid H0)) w' ∧ Mono ρ I w ρ' I' w' ∧ rel ρ' I' w' (renA (shift nid) v) x := by
  obtain ⟨hp, hv, hc⟩ := h
  have m1 : Mono (fun _ => none) I w (fun _ => none) I1 w := ⟨fun _ _ h => h, fun b o h => ⟨hI b o h, rfl⟩, fun b h => ⟨h, rfl⟩⟩
  have c1 : Conc G.g (fun _ => none) I1 [] w := 
    ⟨fun _ h => absurd rfl h, fun _ h => by simp at h, fun _ _ h => by simp at h, fun _ _ _ _ _ h => by simp at h, fun _ _ _ h => by simp at h, fun _ _ h => by simp at h,
      fun b o hb => ⟨hI2 b o hb, noMut⟩, fun n cs h => by
        obtain ⟨us, k1, k2⟩ := c.glob n cs h
        exact ⟨us, GL_mono m1 k1, k2.mono m1.imm⟩⟩
  refine (hc (fun _ => none) I1 w vs c1 (RV_pure hp r)).mono ?_
  rintro e w' ⟨x, rfl, ρ0, I0, v, H0, g, c', hr, hout⟩
  have hok := Out.ok_has hv hout
  have hsl := slotsOk_iff.1 (hslot v H0 hout)
  let ρ' : Rho := fun id => if nid ≤ id ∧ id < nid + H0.length then ρ0 (id - nid) else ρ id
  let I' : Imm := fun b o => I0 b o ∧ (b < w.heap.size → I b o)
  have hlt : H0.length = 0 ∨ nid + H0.length ≤ H.length := by
    rcases Nat.eq_zero_or_pos H0.length with h | h
    · exact .inl h
    · right
      have := (List.getElem?_eq_some_iff.1 (hsl (H0.length - 1) (by omega))).1
      omega
  have hget : ∀ i, (updH H (newsFrom (shift nid) nid H0))[i]? = if nid ≤ i ∧ i < nid + H0.length then (H0[i - nid]?).map (renE (shift nid)) else H[i]? := by
    intro i
    rcases hlt with h | h
    · have : H0 = [] := List.eq_nil_of_length_eq_zero h
      subst this
      have : ¬ (nid ≤ i ∧ i < nid + ([] : Heap).length) := by simp only [List.length_nil]; omega
      rw [if_neg this]; rfl
    · exact newsFrom_get _ H0 H nid i h
  have hρold : ∀ id y, ρ id = some y → ρ' id = some y := by
    intro id y hy
    by_cases hb : nid ≤ id ∧ id < nid + H0.length
    · have := c.res id (by have := hsl (id - nid) (by omega); rwa [show nid + (id - nid) = id by omega] at this)
      rw [this] at hy; simp at hy
    · show (if _ then _ else _) = _
      rw [if_neg hb]; exact hy
  have hρnew : ∀ j, j < H0.length → ρ' (nid + j) = ρ0 j := by
    intro j hj
    show (if _ then _ else _) = _
    rw [if_pos ⟨by omega, by omega⟩, Nat.add_sub_cancel_left]
  have hold : ∀ b, b < w.heap.size → w'.heap[b]? = w.heap[b]? := fun b hb => g.block b hb (fun _ => noMut)
  have cellold : ∀ b o, b < w.heap.size → w'.cell? ⟨b, o, none⟩ = w.cell? ⟨b, o, none⟩ := fun b o hb => g.cell b o hb noMut
  -- entries: old or new
  have split : ∀ i e1, (updH H (newsFrom (shift nid) nid H0))[i]? = some e1 → (∃ j e0, i = nid + j ∧ j < H0.length ∧ H0[j]? = some e0 ∧ e1 = renE (shift nid) e0) ∨ (H[i]? = some e1 ∧ ¬ (nid ≤ i ∧ i < nid + H0.length)) := by
    intro i e1 h1
    rw [hget i] at h1
    by_cases hb : nid ≤ i ∧ i < nid + H0.length
    · rw [if_pos hb] at h1
      left
      have hj : i - nid < H0.length := by omega
      refine ⟨i - nid, H0[i - nid], by omega, hj, by simp [hj], ?_⟩
      simp [hj] at h1
      exact h1.symm
    · rw [if_neg hb] at h1
      exact .inr ⟨h1, hb⟩
  have ρo : ∀ i, ¬ (nid ≤ i ∧ i < nid + H0.length) → ρ' i = ρ i := fun i hb => by show (if _ then _ else _) = _; rw [if_neg hb]
  have newb : ∀ (j : Nat) (e0 : Ent) (b : Nat), H0[j]? = some e0 → e0.live = true → ρ0 j = some (some b) → w.heap.size ≤ b := by
    intro j e0 b h1 h2 h3
    refine Nat.le_of_not_lt fun hb => ?_
    obtain ⟨id, e, q, _⟩ := g.own b hb ⟨j, e0, h1, h2, h3⟩
    simp at q
  have gd : Good ρ I H w ρ' I' (updH H (newsFrom (shift nid) nid H0)) w' := by
    refine ⟨fun id y h => hρold id y h, ?_, by rw [updH_len]; exact Nat.le_refl _, ?_, ?_, g.os, g.tape, g.out, g.size, fun b o hb _ => cellold b o hb, fun b hb _ => hold b hb, g.bs, ?_, ?_⟩
    · rintro id y hy ⟨e1, k1, k2⟩
      rcases split id e1 k1 with ⟨j, e0, rfl, hj, _, _⟩ | ⟨k, _⟩
      · have := c.res (nid + j) (hsl j hj)
        rw [this] at hy; simp at hy
      · exact ⟨e1, k, k2⟩
    · exact fun b o hb => ⟨g.imm b o (hI b o hb), fun _ => hb⟩
    · exact fun b o hb h => .inl (h.2 hb)
    · rintro b o hb ⟨i, e1, h1, h2, h3, h4⟩
      rcases split i e1 h1 with ⟨j, e0, rfl, hj, k1, rfl⟩ | ⟨k, k'⟩
      · rw [hρnew j hj] at h3
        rw [renE_live] at h2
        have := newb j e0 b k1 h2 h3
        omega
      · rw [ρo i k'] at h3
        exact ⟨i, e1, k, h2, h3, h4⟩
    · rintro b hb ⟨i, e1, h1, h2, h3⟩
      rcases split i e1 h1 with ⟨j, e0, rfl, hj, k1, rfl⟩ | ⟨k, k'⟩
      · rw [hρnew j hj] at h3
        rw [renE_live] at h2
        have := newb j e0 b k1 h2 h3
        omega
      · rw [ρo i k'] at h3
        exact ⟨i, e1, k, h2, h3⟩
  have m : Mono ρ I w ρ' I' w' := c.mono gd hρold
  -- from the callee's reading to the caller's
  have hR : ∀ (a : AV) (xs : List Value), refsA H0.length a = true → ((∀ b o, I1 b o → I b o) ∨ nvA a = true) → R ρ0 I0 w' a xs → R ρ' I' w' (renA (shift nid) a) xs := by
    intro a xs href hnv hr0
    have h1 : R ρ0 I' w' a xs := by
      rcases hnv with hs | hs
      · refine R_mono ⟨fun _ _ h => h, fun b o hb => ⟨⟨hb, fun hlt => ?_⟩, rfl⟩, fun b h => ⟨h, rfl⟩⟩ a xs hr0
        exact hs b o ((g.imm' b o hlt hb).resolve_right noMut)
      · exact R_nv a xs hs hr0
    refine (R_ren a xs).1 (R_refs (n := H0.length) (fun j hj => ?_) a xs href h1)
    show ρ' (j + nid) = ρ0 j
    rw [Nat.add_comm]; exact hρnew j hj
  have hRL : ∀ (l : List AV) (xs : List Value), refsL H0.length l = true → ((∀ b o, I1 b o → I b o) ∨ nvL l = true) → RL ρ0 I0 w' l xs → RL ρ' I' w' (renL (shift nid) l) xs := by
    intro a xs href hnv hr0
    have h1 : RL ρ0 I' w' a xs := by
      rcases hnv with hs | hs
      · refine RL_mono ⟨fun _ _ h => h, fun b o hb => ⟨⟨hb, fun hlt => ?_⟩, rfl⟩, fun b h => ⟨h, rfl⟩⟩ a xs hr0
        exact hs b o ((g.imm' b o hlt hb).resolve_right noMut)
      · exact RL_nv a xs hs hr0
    refine (RL_ren a xs).1 (RL_refs (n := H0.length) (fun j hj => ?_) a xs href h1)
    show ρ' (j + nid) = ρ0 j
    rw [Nat.add_comm]; exact hρnew j hj
  have hnvE : ∀ (j : Nat) (e0 : Ent), H0[j]? = some e0 → ((∀ b o, I1 b o → I b o) ∨ nvE e0 = true) := by
    intro j e0 h0
    rcases hsame with h | h
    · exact .inl h
    · have := (h v H0 hout).2
      rw [List.all_eq_true] at this
      exact .inr (this e0 (List.mem_of_getElem? h0))
  have hrE : ∀ (j : Nat) (e0 : Ent), H0[j]? = some e0 → refsE H0.length e0 = true := fun j e0 h0 => hok.2 e0 (List.mem_of_getElem? h0)
  refine ⟨x, rfl, v, H0, ρ', I', hout, gd, ⟨?_, ?_, ?_, ?_, ?_, ?_, ?_, ?_⟩, m, ?_⟩
  · intro id hne
    rw [updH_len]
    by_cases hb : nid ≤ id ∧ id < nid + H0.length
    · rcases hlt with h | h <;> omega
    · rw [ρo id hb] at hne; exact c.dom id hne
  · intro id h1
    rcases split id _ h1 with ⟨j, e0, rfl, hj, k1, k2⟩ | ⟨k, k'⟩
    · have := refsE_live (hrE j e0 k1)
      cases e0 <;> simp [renE] at k2 this
    · rw [ρo id k']; exact c.res id k
  · intro id b hb
    by_cases hbd : nid ≤ id ∧ id < nid + H0.length
    · have : ρ' id = ρ0 (id - nid) := by show (if _ then _ else _) = _; rw [if_pos hbd]
      rw [this] at hb
      exact c'.blt _ b hb
    · rw [ρo id hbd] at hb
      exact Nat.lt_of_lt_of_le (c.blt id b hb) g.size
  · intro i j b e1 e2 hi l1 hj l2 hbi hbj
    rcases split i e1 hi with ⟨ji, ei, rfl, hji, ki, rfl⟩ | ⟨ki, ki'⟩ <;> rcases split j e2 hj with ⟨jj, ej, rfl, hjj, kj, rfl⟩ | ⟨kj, kj'⟩
    · rw [hρnew ji hji] at hbi
      rw [hρnew jj hjj] at hbj
      rw [renE_live] at l1 l2
      rw [c'.inj ji jj b ei ej ki l1 kj l2 hbi hbj]
    · rw [hρnew ji hji] at hbi
      rw [ρo j kj'] at hbj
      rw [renE_live] at l1
      have := newb ji ei b ki l1 hbi
      have := c.blt j b hbj
      omega
    · rw [hρnew jj hjj] at hbj
      rw [ρo i ki'] at hbi
      rw [renE_live] at l2
      have := newb jj ej b kj l2 hbj
      have := c.blt i b hbi
      omega
    · rw [ρo i ki'] at hbi
      rw [ρo j kj'] at hbj
      exact c.inj i j b e1 e2 ki l1 kj l2 hbi hbj
  · intro id cs f h1
    rcases split id _ h1 with ⟨j, e0, rfl, hj, k1, k2⟩ | ⟨k, k'⟩
    · cases e0 with
      | blk c0 f0 =>
        simp only [renE, Ent.blk.injEq] at k2
        obtain ⟨rfl, rfl⟩ := k2
        obtain ⟨b, el, fr, us, q1, q2, q3, q4⟩ := c'.blk j c0 f k1
        exact ⟨b, el, fr, us, by rw [hρnew j hj]; exact q1, q2, hRL c0 us (hrE j _ k1) ((hnvE j _ k1).imp id (fun h => h)) q3, q4⟩
      | _ => simp [renE] at k2
    · obtain ⟨b, el, fr, us, q1, q2, q3, q4⟩ := c.blk id cs f k
      exact ⟨b, el, fr, us, by rw [ρo id k']; exact q1, by rw [hold b (c.blt id b q1)]; exact q2, RL_mono m _ _ q3, q4⟩
  · intro id e1 h1 hg
    rcases split id _ h1 with ⟨j, e0, rfl, hj, k1, rfl⟩ | ⟨k, k'⟩
    · rw [renE_grows] at hg
      obtain ⟨q, h⟩ := c'.grow j e0 k1 hg
      refine ⟨renE_even _ _ q, ?_⟩
      rw [renE_cells]
      rcases h with ⟨h2, h3⟩ | ⟨b, el, fr, us, rest, q1, q2, q3, q4⟩
      · exact .inl ⟨by rw [hρnew j hj]; exact h2, by rw [sz_renL]; exact h3⟩
      · refine .inr ⟨b, el, fr, us, rest, by rw [hρnew j hj]; exact q1, q2, hRL e0.cells us ?_ ?_ q3, q4⟩
        · have := hrE j _ k1
          cases e0 <;> simp_all [refsE, Ent.cells, Ent.grows, refsL, refsA]
        · refine (hnvE j _ k1).imp id fun h => ?_
          cases e0 <;> simp_all [nvE, Ent.cells, Ent.grows, nvL, nvA]
    · obtain ⟨q, h⟩ := c.grow id e1 k hg
      refine ⟨q, ?_⟩
      rcases h with h | ⟨b, el, fr, us, rest, q1, q2, q3, q4⟩
      · exact .inl ⟨by rw [ρo id k']; exact h.1, h.2⟩
      · exact .inr ⟨b, el, fr, us, rest, by rw [ρo id k']; exact q1, by rw [hold b (c.blt id b q1)]; exact q2, RL_mono m _ _ q3, q4⟩
  · rintro b o ⟨hb1, hb2⟩
    obtain ⟨h1, h2⟩ := c'.imm b o hb1
    refine ⟨h1, fun hm => ?_⟩
    obtain ⟨i, e1, q1, q2, q3, q4⟩ := hm
    rcases split i e1 q1 with ⟨j, e0, rfl, hj, k1, rfl⟩ | ⟨k, k'⟩
    · rw [hρnew j hj] at q3
      rw [renE_live] at q2
      rw [renE_frz] at q4
      exact h2 ⟨j, e0, k1, q2, q3, q4⟩
    · rw [ρo i k'] at q3
      have hb := c.blt i b q3
      exact (c.imm b o (hb2 hb)).2 ⟨i, e1, k, q2, q3, q4⟩
  · intro n cs hn
    obtain ⟨us, k1, k2⟩ := c.glob n cs hn
    exact ⟨us, GL_mono m k1, k2.mono m.imm⟩
  · refine valOf.imp (a := renA (shift nid) v) (fun ys hy => hy) ?_
    have hr' : valOf v x (fun xs => R ρ' I' w' (renA (shift nid) v) xs) := valOf.imp (fun ys hy => hR v ys hok.1 (hsame.imp id fun h => (h v H0 hout).1) hy) hr
    exact (valOf_ren (σ := shift nid) (Ra' := R ρ' I' w' (renA (shift nid) v)) fun xs => Iff.rfl).1 hr'
end
end
end Go.V

/- The abstract layer (third state), part B: new blocks at kept numbers, entries that go over to other numbers, rows that are appended to. -/
set_option linter.unusedSimpArgs false
set_option linter.unusedVariables false
namespace Go.V
open Go
noncomputable section

section
variable {P : Program} {G : Env P} {g : Nat → Option (List AV)} {ρ : Rho} {I : Imm} {H : Heap} {w : World}

/-- A new entry whose number was kept. -/
theorem fill_gen (c : Conc g ρ I H w) {nid : Nat} (hn : H[nid]? = some .res) (e : Ent) (x : Option Nat) {w' : World} (hx : ∀ b, x = some b → w.heap.size ≤ b ∧ b < w'.heap.size) (hsz : w.heap.size ≤ w'.heap.size)
    (hold : ∀ b, b < w.heap.size → w'.heap[b]? = w.heap[b]?) (hl : e.live = true)
    (h1 : ∀ cs f, e = .blk cs f → ∃ b el fr us, x = some b ∧ w'.heap[b]? = some (.cells (List.toArray us) el fr) ∧ RL ρ I w cs us ∧ clear fr us.length)
    (h2 : e.grows = true → e.even ∧ ((x = none ∧ szL e.cells = 0) ∨ ∃ b el fr cs rest, x = some b ∧ w'.heap[b]? = some (.cells (List.toArray (cs ++ rest)) el fr) ∧ RL ρ I w e.cells cs ∧ clear fr (cs ++ rest).length))
    (hos : w'.os = w.os) (htape : w'.tape = w.tape) (hout : w'.output = w.output) :
    Good ρ I H w (bindR ρ nid x) I (H.set nid e) w' ∧ Conc g (bindR ρ nid x) I (H.set nid e) w' ∧ Mono ρ I w (bindR ρ nid x) I w' := by
  have hlt : nid < H.length := (List.getElem?_eq_some_iff.1 hn).1
  have hnone := c.res nid hn
  have hset : ∀ i e1, (H.set nid e)[i]? = some e1 → (i = nid ∧ e1 = e) ∨ (i ≠ nid ∧ H[i]? = some e1) := fun i e1 h => set_cases h
  have ho : ∀ i, i ≠ nid → bindR ρ nid x i = ρ i := fun i hi => by simp [bindR, hi]
  have hnew : bindR ρ nid x nid = some x := by simp [bindR]
  have gd : Good ρ I H w (bindR ρ nid x) I (H.set nid e) w' := by
    refine ⟨fun id y h => bindR_old hnone h, fun id y h ⟨e1, k1, k2⟩ => ?_, by simp, fun _ _ h => h, fun _ _ _ h => .inl h, hos, htape, hout, hsz, fun b off h _ => by simp only [World.cell?, hold b h], fun b h _ => hold b h,
      fun b h => by unfold bsz; rw [hold b h], ?_, ?_⟩
    · rcases hset id e1 k1 with ⟨rfl, _⟩ | ⟨_, k⟩
      · rw [hnone] at h; simp at h
      · exact ⟨e1, k, k2⟩
    · rintro b off hb ⟨i, e1, k1, k2, k3, k4⟩
      rcases hset i e1 k1 with ⟨rfl, rfl⟩ | ⟨hi, h⟩
      · rw [hnew] at k3; have := hx b (by simpa using k3); omega
      · rw [ho i hi] at k3; exact ⟨i, e1, h, k2, k3, k4⟩
    · rintro b hb ⟨i, e1, k1, k2, k3⟩
      rcases hset i e1 k1 with ⟨rfl, rfl⟩ | ⟨hi, h⟩
      · rw [hnew] at k3; have := hx b (by simpa using k3); omega
      · rw [ho i hi] at k3; exact ⟨i, e1, h, k2, k3⟩
  have m := c.mono gd fun id y h => bindR_old hnone h
  refine ⟨gd, ⟨?_, ?_, ?_, ?_, ?_, ?_, ?_, ?_⟩, m⟩
  · intro id h
    by_cases e : id = nid
    · subst e; simpa using hlt
    · rw [ho id e] at h; simpa using c.dom id h
  · intro id h
    rcases hset id _ h with ⟨_, h'⟩ | ⟨hi, h'⟩
    · rw [← h'] at hl; simp [Ent.live] at hl
    · rw [ho id hi]; exact c.res id h'
  · intro id b h
    by_cases e : id = nid
    · subst e; rw [hnew] at h; exact (hx b (by simpa using h)).2
    · rw [ho id e] at h; have := c.blt id b h; omega
  · intro i j b e1 e2 hi l1 hj l2 hbi hbj
    rcases hset i e1 hi with ⟨rfl, rfl⟩ | ⟨ki, hi'⟩ <;> rcases hset j e2 hj with ⟨rfl, rfl⟩ | ⟨kj, hj'⟩
    · rfl
    · rw [hnew] at hbi; rw [ho j kj] at hbj; have := hx b (by simpa using hbi); have := c.blt j b hbj; omega
    · rw [hnew] at hbj; rw [ho i ki] at hbi; have := hx b (by simpa using hbj); have := c.blt i b hbi; omega
    · rw [ho i ki] at hbi; rw [ho j kj] at hbj; exact c.inj i j b e1 e2 hi' l1 hj' l2 hbi hbj
  · intro id cs f h
    rcases hset id _ h with ⟨rfl, h'⟩ | ⟨hi, h'⟩
    · obtain ⟨b, el, fr, us, k0, k1, k2, k3⟩ := h1 cs f h'.symm
      exact ⟨b, el, fr, us, by rw [hnew, k0], k1, RL_mono m _ _ k2, k3⟩
    · obtain ⟨b, el', fr, us, k1, k2, k3, k4⟩ := c.blk id cs f h'
      exact ⟨b, el', fr, us, by rw [ho id hi]; exact k1, by rw [hold b (c.blt id b k1)]; exact k2, RL_mono m _ _ k3, k4⟩
  · intro id e1 h he
    rcases hset id _ h with ⟨rfl, rfl⟩ | ⟨hi, h'⟩
    · obtain ⟨q, k⟩ := h2 he
      refine ⟨q, ?_⟩
      rcases k with ⟨k0, k1⟩ | ⟨b, el, fr, us, rest, k0, k1, k2, k3⟩
      · exact .inl ⟨by rw [hnew, k0], k1⟩
      · exact .inr ⟨b, el, fr, us, rest, by rw [hnew, k0], k1, RL_mono m _ _ k2, k3⟩
    · obtain ⟨q, h'⟩ := c.grow id e1 h' he
      refine ⟨q, ?_⟩
      rcases h' with ⟨k1, k2⟩ | ⟨b, el', fr, us, rest, k1, k2, k3, k4⟩
      · exact .inl ⟨by rw [ho id hi]; exact k1, k2⟩
      · exact .inr ⟨b, el', fr, us, rest, by rw [ho id hi]; exact k1, by rw [hold b (c.blt id b k1)]; exact k2, RL_mono m _ _ k3, k4⟩
  · intro b o hb
    obtain ⟨q1, q2⟩ := c.imm b o hb
    exact ⟨by omega, fun h => q2 (gd.wrt b o q1 h)⟩
  · intro gl cs h
    obtain ⟨us, q1, q2⟩ := c.glob gl cs h
    exact ⟨us, GL_mono m q1, q2.mono m.imm⟩

/-- An entry is forgotten. -/
theorem dead_conc (c : Conc g ρ I H w) (id : Nat) : (H[id]? ≠ some .res) → Good ρ I H w ρ I (H.set id .dead) w ∧ Conc g ρ I (H.set id .dead) w := by
  intro hne
  have hset : ∀ i e1, (H.set id .dead)[i]? = some e1 → (i = id ∧ e1 = .dead) ∨ (i ≠ id ∧ H[i]? = some e1) := fun i e1 h => set_cases h
  have live : ∀ (i : Nat) (e1 : Ent), (H.set id .dead)[i]? = some e1 → e1.live = true → H[i]? = some e1 := by
    intro i e1 h hl
    rcases hset i e1 h with ⟨_, rfl⟩ | ⟨_, h⟩
    · simp [Ent.live] at hl
    · exact h
  have gl : ∀ (e : Ent), e.grows = true → e.live = true := by intro e h; cases e <;> simp_all [Ent.grows, Ent.live]
  have gd : Good ρ I H w ρ I (H.set id .dead) w :=
    ⟨fun _ _ h => h, fun i x _ ⟨e, h1, h2⟩ => ⟨e, live i e h1 (gl e h2), h2⟩, by simp, fun _ _ h => h, fun _ _ _ h => .inl h, rfl, rfl, rfl, Nat.le_refl _, fun _ _ _ _ => rfl, fun _ _ _ => rfl, fun _ _ => rfl,
      fun b o _ ⟨i, e, h1, h2, h3, h4⟩ => ⟨i, e, live i e h1 h2, h2, h3, h4⟩, fun b _ ⟨i, e, h1, h2, h3⟩ => ⟨i, e, live i e h1 h2, h2, h3⟩⟩
  refine ⟨gd, fun i h => by simpa using c.dom i h, fun i h => ?_, c.blt, fun i j b e e' hi l1 hj l2 => c.inj i j b e e' (live i e hi l1) l1 (live j e' hj l2) l2,
    fun i cs f h => c.blk i cs f (live i _ h rfl), fun i e h he => c.grow i e (live i _ h (gl e he)) he, fun b o h => ⟨(c.imm b o h).1, fun hm => (c.imm b o h).2 (gd.wrt b o (c.imm b o h).1 hm)⟩, c.glob⟩
  rcases hset i _ h with ⟨_, h⟩ | ⟨_, h⟩
  · simp at h
  · exact c.res i h

/-- An entry goes over to a number that was kept; the old number's is forgotten. -/
theorem move_conc (c : Conc g ρ I H w) {id nid : Nat} {e : Ent} {y : Option Nat} (hid : H[id]? = some e) (hl : e.live = true) (hy : ρ id = some y) (hn : H[nid]? = some .res) :
    Good ρ I H w (bindR ρ nid y) I ((H.set nid e).set id .dead) w ∧ Conc g (bindR ρ nid y) I ((H.set nid e).set id .dead) w ∧ Mono ρ I w (bindR ρ nid y) I w := by
  have hne : id ≠ nid := by rintro rfl; rw [hid] at hn; simp at hn; subst hn; simp [Ent.live] at hl
  have hlt : nid < H.length := (List.getElem?_eq_some_iff.1 hn).1
  have hlt' : id < H.length := (List.getElem?_eq_some_iff.1 hid).1
  have hnone := c.res nid hn
  have ho : ∀ i, i ≠ nid → bindR ρ nid y i = ρ i := fun i hi => by simp [bindR, hi]
  have hnew : bindR ρ nid y nid = some y := by simp [bindR]
  have hset : ∀ i e1, ((H.set nid e).set id .dead)[i]? = some e1 → (i = id ∧ e1 = .dead) ∨ (i = nid ∧ e1 = e) ∨ (i ≠ nid ∧ i ≠ id ∧ H[i]? = some e1) := by
    intro i e1 h
    rcases set_cases h with h | ⟨h1, h2⟩
    · exact .inl h
    · rcases set_cases h2 with h | ⟨h3, h4⟩
      · exact .inr (.inl h)
      · exact .inr (.inr ⟨h3, h1, h4⟩)
  -- each live entry is one of old
  have old : ∀ (i : Nat) (e1 : Ent), ((H.set nid e).set id .dead)[i]? = some e1 → e1.live = true → ∃ j, H[j]? = some e1 ∧ bindR ρ nid y i = ρ j ∧ ((i = nid ∧ j = id) ∨ (i ≠ nid ∧ i ≠ id ∧ j = i)) := by
    intro i e1 h h1
    rcases hset i e1 h with ⟨_, rfl⟩ | ⟨rfl, rfl⟩ | ⟨h2, h3, h4⟩
    · simp [Ent.live] at h1
    · exact ⟨id, hid, by rw [hnew, hy], .inl ⟨rfl, rfl⟩⟩
    · exact ⟨i, h4, ho i h2, .inr ⟨h2, h3, rfl⟩⟩
  have gl : ∀ (e : Ent), e.grows = true → e.live = true := by intro e h; cases e <;> simp_all [Ent.grows, Ent.live]
  have gd : Good ρ I H w (bindR ρ nid y) I ((H.set nid e).set id .dead) w := by
    refine ⟨fun id x h => bindR_old hnone h, fun i x hx ⟨e1, k1, k2⟩ => ?_, by simp, fun _ _ h => h, fun _ _ _ h => .inl h, rfl, rfl, rfl, Nat.le_refl _, fun _ _ _ _ => rfl, fun _ _ _ => rfl, fun _ _ => rfl, ?_, ?_⟩
    · rcases hset i e1 k1 with ⟨_, rfl⟩ | ⟨rfl, rfl⟩ | ⟨_, _, h⟩
      · simp [Ent.grows] at k2
      · rw [hnone] at hx; simp at hx
      · exact ⟨e1, h, k2⟩
    · rintro b o hb ⟨i, e1, h1, h2, h3, h4⟩
      obtain ⟨j, k1, k2, _⟩ := old i e1 h1 h2
      exact ⟨j, e1, k1, h2, k2 ▸ h3, h4⟩
    · rintro b hb ⟨i, e1, h1, h2, h3⟩
      obtain ⟨j, k1, k2, _⟩ := old i e1 h1 h2
      exact ⟨j, e1, k1, h2, k2 ▸ h3⟩
  have m := c.mono gd fun id x h => bindR_old hnone h
  refine ⟨gd, ⟨?_, ?_, ?_, ?_, ?_, ?_, ?_, ?_⟩, m⟩
  · intro i h
    by_cases e : i = nid
    · subst e; simpa using hlt
    · rw [ho i e] at h; simpa using c.dom i h
  · intro i h
    rcases hset i _ h with ⟨_, h'⟩ | ⟨_, h'⟩ | ⟨h1, _, h'⟩
    · simp at h'
    · rw [← h'] at hl; simp [Ent.live] at hl
    · rw [ho i h1]; exact c.res i h'
  · intro i b h
    by_cases e : i = nid
    · subst e; rw [hnew, ← hy] at h; exact c.blt id b h
    · rw [ho i e] at h; exact c.blt i b h
  · intro i j b e1 e2 hi l1 hj l2 hbi hbj
    obtain ⟨i', a1, a2, a3⟩ := old i e1 hi l1
    obtain ⟨j', b1, b2, b3⟩ := old j e2 hj l2
    have := c.inj i' j' b e1 e2 a1 l1 b1 l2 (a2 ▸ hbi) (b2 ▸ hbj)
    rcases a3 with ⟨_, _⟩ | ⟨_, _, _⟩ <;> rcases b3 with ⟨_, _⟩ | ⟨_, _, _⟩ <;> omega
  · intro i cs f h
    obtain ⟨j, k1, k2, _⟩ := old i _ h rfl
    obtain ⟨b, el, fr, us, q1, q2, q3, q4⟩ := c.blk j cs f k1
    exact ⟨b, el, fr, us, by rw [k2]; exact q1, q2, RL_mono m _ _ q3, q4⟩
  · intro i e1 h he
    obtain ⟨j, k1, k2, _⟩ := old i _ h (gl e1 he)
    obtain ⟨q, h'⟩ := c.grow j e1 k1 he
    refine ⟨q, ?_⟩
    rcases h' with ⟨q1, q2⟩ | ⟨b, el, fr, us, rest, q1, q2, q3, q4⟩
    · exact .inl ⟨by rw [k2]; exact q1, q2⟩
    · exact .inr ⟨b, el, fr, us, rest, by rw [k2]; exact q1, q2, RL_mono m _ _ q3, q4⟩
  · intro b o hb
    obtain ⟨q1, q2⟩ := c.imm b o hb
    exact ⟨q1, fun h => q2 (gd.wrt b o q1 h)⟩
  · intro gl cs h
    obtain ⟨us, q1, q2⟩ := c.glob gl cs h
    exact ⟨us, GL_mono m q1, q2.mono m.imm⟩

/-- Trailing kept numbers, given back. -/
theorem drop_res (c : Conc g ρ I (H ++ [.res]) w) : Conc g ρ I H w := by
  have up : ∀ (i : Nat) (e : Ent), H[i]? = some e → (H ++ [.res])[i]? = some e := fun i e h => by
    rw [List.getElem?_append_left (List.getElem?_eq_some_iff.1 h).1]; exact h
  refine ⟨fun id h => ?_, fun id h => c.res id (up id _ h), c.blt, fun i j b e e' hi l1 hj l2 => c.inj i j b e e' (up i e hi) l1 (up j e' hj) l2, fun i cs f h => c.blk i cs f (up i _ h), fun i e h he => c.grow i e (up i _ h) he,
    fun b o h => ⟨(c.imm b o h).1, fun ⟨i, e, h1, h2⟩ => (c.imm b o h).2 ⟨i, e, up i e h1, h2⟩⟩, c.glob⟩
  have h1 := c.dom id h
  refine Classical.byContradiction fun h2 => h (c.res id ?_)
  have : id = H.length := by simp at h1; omega
  subst this; simp

theorem drop_res_good {ρ0 : Rho} {I0 : Imm} {H0 : Heap} {w0 : World} (hl : H0.length ≤ H.length) (gd : Good ρ0 I0 H0 w0 ρ I (H ++ [.res]) w) : Good ρ0 I0 H0 w0 ρ I H w := by
  have up : ∀ (i : Nat) (e : Ent), H[i]? = some e → (H ++ [.res])[i]? = some e := fun i e h => by
    rw [List.getElem?_append_left (List.getElem?_eq_some_iff.1 h).1]; exact h
  exact ⟨gd.ext, fun i x h ⟨e, h1, h2⟩ => gd.kp i x h ⟨e, up i e h1, h2⟩, hl, gd.imm, gd.imm', gd.os, gd.tape, gd.out, gd.size, gd.cell, gd.block, gd.bs, fun b o hb ⟨i, e, h1, h2⟩ => gd.wrt b o hb ⟨i, e, up i e h1, h2⟩,
    fun b hb ⟨i, e, h1, h2⟩ => gd.own b hb ⟨i, e, up i e h1, h2⟩⟩

end
end
end Go.V

/- The abstract layer (third state), part C: what an operation does to a state, as a thing that can be reckoned; and that it holds wherever the state looks the same. -/
set_option linter.unusedSimpArgs false
set_option linter.unusedVariables false
namespace Go.V
open Go
noncomputable section

/-- What an operation comes to: a condition, a value, entries written; by cases. -/
inductive Eff where
  | one (c : Bool) (v : AV) (u : List (Nat × Ent))
  | br (b : Bool) (x y : Eff)
  | ck (b : Bool) (x : Eff)
  | bad
  deriving Inhabited

def Eff.go : Eff → (AV → List (Nat × Ent) → Prop) → Prop
  | .one c v u, K => cnd c (K v u)
  | .br b x y, K => ite2 b (x.go K) (y.go K)
  | .ck b x, K => cnd b (x.go K)
  | .bad, _ => False

def Eff.has : Eff → AV → List (Nat × Ent) → Prop
  | .one c v u, v', u' => c = true ∧ v' = v ∧ u' = u
  | .br b x y, v', u' => match b with
    | true => x.has v' u'
    | false => y.has v' u'
  | .ck b x, v', u' => b = true ∧ x.has v' u'
  | .bad, _, _ => False

theorem Eff.go_has : ∀ {E : Eff} {K : AV → List (Nat × Ent) → Prop}, E.go K → ∃ v u, E.has v u ∧ K v u
  | .one c v u, K, h => let ⟨h1, h2⟩ := cnd_iff.1 h; ⟨v, u, ⟨h1, rfl, rfl⟩, h2⟩
  | .ck b x, K, h => let ⟨h1, h2⟩ := cnd_iff.1 h; let ⟨v, u, h3, h4⟩ := Eff.go_has (E := x) h2; ⟨v, u, ⟨h1, h3⟩, h4⟩
  | .br true x y, K, h => Eff.go_has (E := x) h
  | .br false x y, K, h => Eff.go_has (E := y) h
  | .bad, K, h => h.elim

/-- The entry that a value points into. -/
def refId0 : AV → List Nat
  | .ptr id _ => [id]
  | .pix id _ _ _ => [id]
  | .sl id _ _ _ => [id]
  | .slv id _ _ _ => [id]
  | _ => []
mutual
/-- .. and those that its parts point into. -/
def refD : AV → List Nat
  | .ptr id _ => [id]
  | .pix id _ _ _ => [id]
  | .sl id _ _ _ => [id]
  | .slv id _ _ _ => [id]
  | .agg l => refDL l
  | _ => []
def refDL : List AV → List Nat
  | [] => []
  | a :: as => refD a ++ refDL as
end
def refId : AV → List Nat
  | .ptr id _ => [id]
  | .pix id _ _ _ => [id]
  | .sl id _ _ _ => [id]
  | .slv id _ _ _ => [id]
  | .agg l => refDL l
  | .fn _ a b => a.flatMap refD ++ b.flatMap refD
  | _ => []
theorem refD_sub {a : AV} {id : Nat} (h : id ∈ refD a) : id ∈ refId a := by cases a <;> simp_all [refD, refId]
theorem refD_of0 {a : AV} {id : Nat} (h : id ∈ refId0 a) : id ∈ refD a := by cases a <;> simp_all [refD, refId0]
theorem refId0_sub {a : AV} {id : Nat} (h : id ∈ refId0 a) : id ∈ refId a := by cases a <;> simp_all [refId0, refId]
def refIds (ev : Operand → AV) (l : List Operand) : List Nat := l.flatMap fun x => refId (ev x)

/-- Numbers that a call may take for what it makes. -/
def callSlots : Nat := 3

def upTo (nid : Nat) : Nat → List Nat
  | 0 => []
  | n + 1 => nid :: upTo (nid + 1) n
/-- Which entries an operation's effect may hang on. -/
def readsE (ev : Operand → AV) (op : Op) (nid n : Nat) : List Nat :=
  match op with
  | .move _ => []
  | .assign _ => []
  | .pick _ _ _ => []
  | .extract _ _ => []
  | .fieldAddr _ _ _ => []
  | .indexAddr _ _ _ => []
  | .index _ _ _ => []
  | .field _ _ _ => []
  | .binOp _ _ _ _ _ => []
  | .unOp _ _ _ => []
  | .nilCheck _ => []
  | .makeFunc _ _ _ => []
  | .build _ _ => []
  | .load _ a => refId (ev a)
  | .store _ a _ => refId (ev a)
  | op => refIds ev op.operands.toList ++ upTo nid n

section
variable {P : Program} (G : Env P)

/-- An effect that holds of the model's own run. -/
def EffOk (ρ : Rho) (I : Imm) (H : Heap) (w : World) (res : Result Next) (v : AV) (u : List (Nat × Ent)) : Prop :=
  ∃ (x : Value) (w' : World), (res = .ok (.value x) w' ∨ (res = .ok .skip w' ∧ x = undef)) ∧ ∃ (ρ' : Rho) (I' : Imm), Good ρ I H w ρ' I' (updH H u) w' ∧ Conc G.g ρ' I' (updH H u) w' ∧ Mono ρ I w ρ' I' w' ∧ rel ρ' I' w' v x

/-- An effect behind other ones. -/
def Eff.pre (u0 : List (Nat × Ent)) : Eff → Eff
  | .one c v u => .one c v (u0 ++ u)
  | .br b x y => .br b (x.pre u0) (y.pre u0)
  | .ck b x => .ck b (x.pre u0)
  | .bad => .bad
theorem Eff.pre_has {u0 : List (Nat × Ent)} : ∀ {E : Eff} {v : AV} {u : List (Nat × Ent)}, (E.pre u0).has v u → ∃ u1, u = u0 ++ u1 ∧ E.has v u1
  | .one c v' u', v, u, ⟨h1, h2, h3⟩ => ⟨u', h3, h1, h2, rfl⟩
  | .br true x y, v, u, h => Eff.pre_has (E := x) h
  | .br false x y, v, u, h => Eff.pre_has (E := y) h
  | .ck b x, v, u, ⟨h1, h2⟩ => let ⟨u1, h3, h4⟩ := Eff.pre_has (E := x) h2; ⟨u1, h3, h1, h4⟩
theorem updH_append : ∀ (u u' : List (Nat × Ent)) (H : Heap), updH H (u ++ u') = updH (updH H u) u'
  | [], _, _ => rfl
  | (i, e) :: r, u', H => by simp only [List.cons_append, updH, updH_append r u']
theorem updH_point {id : Nat} : ∀ (u : List (Nat × Ent)) {H1 H2 : Heap}, H1[id]? = H2[id]? → (updH H1 u)[id]? = (updH H2 u)[id]?
  | [], _, _, h => h
  | (i, e) :: r, H1, H2, h => by
    refine updH_point r ?_
    rw [List.getElem?_set, List.getElem?_set, h]
    by_cases hi : i = id
    · subst hi
      have : i < H1.length ↔ i < H2.length := by
        rw [← Decidable.not_iff_not, Nat.not_lt, Nat.not_lt, ← List.getElem?_eq_none_iff, ← List.getElem?_eq_none_iff, h]
      simp only [if_true, this]
    · simp only [if_neg hi]
theorem Mono.trans' {ρ : Rho} {I : Imm} {w : World} {ρ1 : Rho} {I1 : Imm} {w1 : World} {ρ2 : Rho} {I2 : Imm} {w2 : World} (a : Mono ρ I w ρ1 I1 w1) (b : Mono ρ1 I1 w1 ρ2 I2 w2) : Mono ρ I w ρ2 I2 w2 :=
  ⟨fun i x h => b.ext i x (a.ext i x h), fun x o h => ⟨(b.imm x o (a.imm x o h).1).1, ((b.imm x o (a.imm x o h).1).2).trans (a.imm x o h).2⟩,
    fun x h => ⟨(b.sz x (a.sz x h).1).1, ((b.sz x (a.sz x h).1).2).trans (a.sz x h).2⟩⟩
theorem Mono.id (ρ : Rho) (I : Imm) (w : World) : Mono ρ I w ρ I w := ⟨fun _ _ h => h, fun _ _ h => ⟨h, rfl⟩, fun _ h => ⟨h, rfl⟩⟩

/-- The slots that an operation may take. -/
def slots : Op → Nat
  | .alloc _ => 1
  | .box _ _ => 1
  | .buildSlice _ _ _ => 1
  | .makeSlice _ _ _ => 1
  | .convert _ d _ => match G.ty d with
    | some td => match td.kind with
      | .slice _ => 1
      | _ => 0
    | none => 0
  | .slice _ _ _ _ m => bif m.isSome then 1 else 0
  | .call c => match c.callee with
    | .value _ => callSlots
    | .builtin .append => 1
    | _ => 0
  | _ => 0

/-- Operations on slices, told apart. -/
structure ROps where
  f : Op → (Operand → AV) → Heap → Nat → Option Eff
  congr : ∀ (op : Op) (ev ev' : Operand → AV) (H H' : Heap) (nid : Nat), (∀ x ∈ op.operands, ev' x = ev x) → (∀ id ∈ readsE ev op nid (slots G op), H'[id]? = H[id]?) → f op ev' H' nid = f op ev H nid
  sound : ∀ (ρ : Rho) (I : Imm) (H : Heap) (w : World), Conc G.g ρ I H w → ∀ (ev : Operand → AV) (e : Operand → Value), (∀ x, rel ρ I w (ev x) (e x)) → ∀ (o : Oper) (nid : Nat) (E : Eff) (v : AV) (u : List (Nat × Ent)),
    f o.op ev H nid = some E → E.has v u → EffOk G ρ I H w ((execOp e o).run P w) v u
  /-- Arguments of calls made ready: what is written no more from now on. -/
  pre : Heap → List AV → Option (Bool × List AV × List (Nat × Ent)) := fun _ args => some (true, args, [])
  preC : ∀ (H H' : Heap) (args : List AV), (∀ a ∈ args, ∀ id ∈ refD a, H'[id]? = H[id]?) → pre H' args = pre H args := by intros; rfl
  preR : ∀ (H : Heap) (args : List AV) (p : Bool) (args' : List AV) (u : List (Nat × Ent)), pre H args = some (p, args', u) → ∀ a ∈ args', ∀ id ∈ refId0 a, ∃ b ∈ args, id ∈ refD b := by
    intro H args p args' u h a ha id hid
    simp only [Option.some.injEq, Prod.mk.injEq] at h
    obtain ⟨_, rfl, _⟩ := h
    exact ⟨a, ha, refD_of0 hid⟩
  preS : ∀ (ρ : Rho) (I : Imm) (H : Heap) (w : World), Conc G.g ρ I H w → ∀ (args args' : List AV) (u : List (Nat × Ent)), pre H args = some (true, args', u) →
      ∃ I', Good ρ I H w ρ I' (updH H u) w ∧ Conc G.g ρ I' (updH H u) w ∧ Mono ρ I w ρ I' w ∧ ∀ vs, RV ρ I w args vs → RV ρ I' w args' vs := by
    intro ρ I H w c args args' u h
    simp only [Option.some.injEq, Prod.mk.injEq] at h
    obtain ⟨_, rfl, rfl⟩ := h
    exact ⟨I, Good.refl _ _ _ _, c, Mono.id _ _ _, fun _ r => r⟩

/-- Arguments as the callee sees them: what is lent is unwritten to it. -/
def lend1 (H : Heap) : AV → Option (Bool × AV × Bool)
  | .sl id off k len => match H[id]? with
    | some (.grow k' rows _) => some ((k == k' && off == 0) && leB len rows.length, .vec false k (rows.take len), true)
    | _ => match content8 H (.sl id off k len) with
      | some (c, l) => some (c, .vec8 false l, true)
      | none => none
  | .slv _ k n f => some (true, .vecr false k n f, false)
  | a => some (true, a, false)
def lend (H : Heap) : List AV → Option (Bool × List AV × Bool)
  | [] => some (true, [], false)
  | a :: as => match lend1 H a with
    | some (c, x, b) => match lend H as with
      | some (d, xs, b') => some (c && d, x :: xs, b || b')
      | none => none
    | none => none

def outE (b : Bool) (H : Heap) (nid : Nat) : Out → Eff
  | .ret v H0 => .ck (leB H0.length callSlots && slotsOk H nid H0) (.ck (!b || (nvA v && H0.all nvE)) (.one true (renA (shift nid) v) (newsFrom (shift nid) nid H0)))
  | .alt d x y => .br d (outE b H nid x) (outE b H nid y)

/-- A call that takes over the room behind its first argument, and comes to a plain value. -/
structure GCall (f : FuncId) (args : List AV) (v : AV) : Prop where
  pv : pureA v = true
  call : ∃ k n fr rest, args = .slv 0 k n fr :: rest ∧ pureL rest = true ∧ ACall G f args [.tail k n] (fun v' _ => v' = v)
def CallOk (f : FuncId) (args : List AV) (out : Out) : Prop := HCall G f args out ∨ ∃ v a, out = .ret v [] ∧ args = [.tup [], .tup a] ∧ GCall G f a v

/-- What is known of calls. -/
structure Ctr where
  C : FuncId → List AV → Option (Bool × Out)
  ok : ∀ f args pre out, C f args = some (pre, out) → pre = true → CallOk G f args out

def giftE (C : FuncId → List AV → Option (Bool × Out)) (f : FuncId) (args : List AV) (H : Heap) : Option Eff :=
  match args with
  | .slv id k n fr :: rest => match C f [.tup [], .tup (.slv 0 k n fr :: rest)] with
    | some (pre, .ret v []) => match H[id]? with
      | some (.tail k' n') => some (.ck (G.go f) (.ck ((k == k' && n == n') && (pureL rest && pureA v)) (.ck pre (.one true v [(id, .dead)]))))
      | _ => none
    | _ => none
  | _ => none

def callE (C : FuncId → List AV → Option (Bool × Out)) (f : FuncId) (args : List AV) (H : Heap) (nid : Nat) : Option Eff :=
  match lend H args with
  | some (c, args', b) => match C f args' with
    | some (pre, out) => some (.ck (G.go f) (.ck (pureL args') (.ck c (.ck pre (outE b H nid out)))))
    | none => none
  | none => none

/-- Operations that make or write memory, but for those on slices. -/
def amem (op : Op) (ev : Operand → AV) (H : Heap) (nid : Nat) : Option Eff :=
  match op with
  | .alloc t => match G.ty t with
    | some ti => match ti.zero with
      | some z => some (.one (known z && isRes H nid) (.ptr nid 0) [(nid, .blk z.cells [])])
      | none => none
    | none => none
  | .box _ x => some (.one (known (ev x) && isRes H nid) (.ptr nid 0) [(nid, .blk (ev x).cells [])])
  | .store t a x => match astore G (.store t a x) ev H with
    | some (c, id, e) => some (.one c (.tup []) [(id, e)])
    | none => none
  | _ => none

def eff (R : ROps G) (C : FuncId → List AV → Option (Bool × Out)) (op : Op) (ev : Operand → AV) (H : Heap) (nid : Nat) : Option Eff :=
  match aval0 G op ev H with
  | some (c, v) => some (.one c v [])
  | none => match amem G op ev H nid with
    | some E => some E
    | none => match R.f op ev H nid with
      | some E => some E
      | none => match acall op ev with
        | some (f, args) => match giftE G C f args H with
          | some E => some E
          | none => match R.pre H args with
            | some (p, args1, u) => match callE G C f args1 (updH H u) nid with
              | some E => some (.ck p (E.pre u))
              | none => none
            | none => none
        | none => none
end

section
variable {P : Program} {G : Env P} {ρ : Rho} {I : Imm} {H : Heap} {w : World}

theorem refId_load {ev : Operand → AV} {H H' : Heap} {a : Operand} (hr : ∀ id ∈ refId (ev a), H'[id]? = H[id]?) : (∀ ti, aload ti H' (ev a) = aload ti H (ev a)) ∧ content8 H' (ev a) = content8 H (ev a) ∧ lend1 H' (ev a) = lend1 H (ev a) := by
  cases h2 : ev a <;> rw [h2] at hr <;> simp only [refId, List.mem_singleton, forall_eq, List.not_mem_nil, false_implies, implies_true] at hr <;> simp [aload, cellsAt, cellsAtX, entCells, content8, lend1, *]

theorem map_ev_congr {ev ev' : Operand → AV} {l : List Operand} (h : ∀ x ∈ l, ev' x = ev x) : l.map ev' = l.map ev := List.map_congr_left h

theorem mem_refIds {ev : Operand → AV} {l : List Operand} {x : Operand} {id : Nat} (hx : x ∈ l) (h : id ∈ refId (ev x)) : id ∈ refIds ev l := List.mem_flatMap.2 ⟨x, hx, h⟩

theorem aval0_congr {op : Op} {ev ev' : Operand → AV} {H H' : Heap} {nid : Nat} (he : ∀ x ∈ op.operands, ev' x = ev x)
    (hr : ∀ id ∈ readsE ev op nid (slots G op), H'[id]? = H[id]?) : aval0 G op ev' H' = aval0 G op ev H := by
  cases op with
  | load t a =>
    have h1 := he a (by simp [Op.operands])
    simp only [aval0, h1]
    have := (refId_load (H := H) (H' := H') (ev := ev) (a := a) hr).1
    simp only [this]
  | convert t d x =>
    have h1 := he x (by simp [Op.operands])
    simp only [aval0, h1]
    have h8 := (refId_load (H := H) (H' := H') (ev := ev) (a := x) fun id hid => hr id (by simp only [readsE, Op.operands]; exact List.mem_append_left _ (mem_refIds (by simp) hid))).2.1
    have : ∀ ti td, aConvert G ti td H' (ev x) = aConvert G ti td H (ev x) := by
      intro ti td
      simp only [aConvert, h8]
    simp only [this]
  | call c =>
    have hargs : c.args.toList.map ev' = c.args.toList.map ev := map_ev_congr fun x hx => he x (by simp [Op.operands, Call.operands]; right; simpa using hx)
    simp only [aval0, hargs]
    split
    · rename_i fo hfo
      have := he fo (by simp [Op.operands, Call.operands, hfo])
      rw [this]
    · rfl
    · rfl
    · rfl
    · rfl
  | makeFunc fn first caps =>
    have h1 : first.toList.map ev' = first.toList.map ev := map_ev_congr fun x hx => he x (by simp [Op.operands]; left; simpa using hx)
    have h2 : caps.toList.map ev' = caps.toList.map ev := map_ev_congr fun x hx => he x (by simp [Op.operands]; right; simpa using hx)
    simp only [aval0, h1, h2]
  | build t parts =>
    have h1 : (parts.toList.map fun p => (p.1, ev' p.2)) = parts.toList.map fun p => (p.1, ev p.2) :=
      List.map_congr_left fun p hp => by rw [he p.2 (by simp [Op.operands]; exact ⟨p.1, by simpa using hp⟩)]
    simp only [aval0, h1]
  | move x => simp only [aval0, he x (by simp [Op.operands])]
  | assign x => simp only [aval0, he x (by simp [Op.operands])]
  | pick c a b => simp only [aval0, he c (by simp [Op.operands]), he a (by simp [Op.operands]), he b (by simp [Op.operands])]
  | extract t i => simp only [aval0, he t (by simp [Op.operands])]
  | fieldAddr s x f => simp only [aval0, he x (by simp [Op.operands])]
  | indexAddr t x i => simp only [aval0, he x (by simp [Op.operands]), he i (by simp [Op.operands])]
  | index t x i => simp only [aval0, he x (by simp [Op.operands]), he i (by simp [Op.operands])]
  | field t x f => simp only [aval0, he x (by simp [Op.operands])]
  | binOp op t x y ty => simp only [aval0, he x (by simp [Op.operands]), he y (by simp [Op.operands])]
  | unOp op t x => simp only [aval0, he x (by simp [Op.operands])]
  | nilCheck x => simp only [aval0, he x (by simp [Op.operands])]
  | _ => rfl

theorem acall_congr {op : Op} {ev ev' : Operand → AV} (he : ∀ x ∈ op.operands, ev' x = ev x) : acall op ev' = acall op ev := by
  cases op with
  | call c =>
    have hargs : c.args.toList.map ev' = c.args.toList.map ev := map_ev_congr fun x hx => he x (by simp [Op.operands, Call.operands]; right; simpa using hx)
    simp only [acall, hargs]
    split
    · rename_i fo hfo
      have := he fo (by simp [Op.operands, Call.operands, hfo])
      rw [this]
    · rfl
  | _ => rfl

theorem refA_lend {a : AV} {H H' : Heap} (hr : ∀ id ∈ refId0 a, H'[id]? = H[id]?) : lend1 H' a = lend1 H a := by
  cases a <;> simp only [refId0, List.mem_singleton, forall_eq, List.not_mem_nil, false_implies, implies_true] at hr <;> simp [lend1, content8, hr]

theorem lend_congr {H H' : Heap} : ∀ {args : List AV}, (∀ a ∈ args, ∀ id ∈ refId0 a, H'[id]? = H[id]?) → lend H' args = lend H args
  | [], _ => rfl
  | a :: as, h => by
    simp only [lend, refA_lend (h a (by simp)), lend_congr (args := as) fun x hx => h x (by simp [hx])]

theorem slotsOk_congr {H H' : Heap} : ∀ {H0 : Heap} {nid : Nat}, (∀ j, j < H0.length → H'[nid + j]? = H[nid + j]?) → slotsOk H' nid H0 = slotsOk H nid H0
  | [], _, _ => rfl
  | e :: r, nid, h => by
    have h0 : isRes H' nid = isRes H nid := by unfold isRes; rw [show H'[nid]? = H[nid]? from h 0 (by simp)]
    have h1 : slotsOk H' (nid + 1) r = slotsOk H (nid + 1) r := slotsOk_congr fun j hj => by
      have := h (j + 1) (by simpa using hj)
      rwa [show nid + (j + 1) = nid + 1 + j by omega] at this
    simp only [slotsOk, h0, h1]

theorem outE_congr {b : Bool} {H H' : Heap} {nid : Nat} (h : ∀ j, j < callSlots → H'[nid + j]? = H[nid + j]?) : ∀ (out : Out), outE b H' nid out = outE b H nid out
  | .ret v H0 => by
    simp only [outE]
    cases hl : leB H0.length callSlots
    · simp
    · rw [slotsOk_congr fun j hj => h j (by have := leB_iff.1 hl; omega)]
  | .alt d x y => by simp only [outE, outE_congr h x, outE_congr h y]

theorem callE_congr {C : FuncId → List AV → Option (Bool × Out)} {f : FuncId} {args : List AV} {H H' : Heap} {nid : Nat} (h1 : ∀ a ∈ args, ∀ id ∈ refId0 a, H'[id]? = H[id]?) (h2 : ∀ j, j < callSlots → H'[nid + j]? = H[nid + j]?) :
    callE G C f args H' nid = callE G C f args H nid := by
  simp only [callE, lend_congr h1, outE_congr h2]

theorem astore_id {op : Op} {ev : Operand → AV} {c : Bool} {id : Nat} {x : Ent} (h : astore G op ev H = some (c, id, x)) : ∃ t a y, op = .store t a y ∧ id ∈ refId (ev a) := by
  cases op with
  | store t a y =>
    refine ⟨t, a, y, rfl, ?_⟩
    simp only [astore] at h
    split at h
    · split at h
      · rename_i id' off k2
        split at h
        · split at h
          · simp only [Option.some.injEq, Prod.mk.injEq] at h
            obtain ⟨_, rfl, _⟩ := h; simp [k2, refId]
          · simp at h
        · simp at h
      · rename_i id' off n i k2
        split at h
        · split at h
          · split at h
            · simp only [Option.some.injEq, Prod.mk.injEq] at h
              obtain ⟨_, rfl, _⟩ := h; simp [k2, refId]
            · simp at h
          · simp at h
        · simp at h
      · simp at h
    · simp at h
  | _ => simp [astore] at h

theorem astore_congr {t : Nat} {a y : Operand} {ev ev' : Operand → AV} {H H' : Heap} (h1 : ev' a = ev a) (h2 : ev' y = ev y) (hr : ∀ id ∈ refId (ev a), H'[id]? = H[id]?) :
    astore G (.store t a y) ev' H' = astore G (.store t a y) ev H := by
  simp only [astore, h1, h2]
  cases hq : ev a <;> rw [hq] at hr <;> simp only [refId, List.mem_singleton, forall_eq, List.not_mem_nil, false_implies, implies_true] at hr <;> simp [hr]

theorem amem_congr {op : Op} {ev ev' : Operand → AV} {H H' : Heap} {nid : Nat} (he : ∀ x ∈ op.operands, ev' x = ev x)
    (hr : ∀ id ∈ readsE ev op nid (slots G op), H'[id]? = H[id]?) : amem G op ev' H' nid = amem G op ev H nid := by
  cases op with
  | alloc t => simp only [amem, isRes, hr nid (by simp [readsE, slots, upTo])]
  | box t x => simp only [amem, he x (by simp [Op.operands]), isRes, hr nid (by simp [readsE, slots, upTo])]
  | store t a x => simp only [amem, astore_congr (G := G) (he a (by simp [Op.operands])) (he x (by simp [Op.operands])) hr]
  | _ => rfl

theorem giftE_congr {C : FuncId → List AV → Option (Bool × Out)} {f : FuncId} {args : List AV} {H H' : Heap} (h : ∀ a ∈ args, ∀ id ∈ refD a, H'[id]? = H[id]?) : giftE G C f args H' = giftE G C f args H := by
  unfold giftE
  split
  · rename_i id k n fr rest
    rw [h _ (List.mem_cons_self ..) id (by simp [refD])]
  · rfl

theorem eff_congr {R : ROps G} {C : FuncId → List AV → Option (Bool × Out)} {op : Op} {ev ev' : Operand → AV} {H H' : Heap} {nid : Nat} (he : ∀ x ∈ op.operands, ev' x = ev x)
    (hr : ∀ id ∈ readsE ev op nid (slots G op), H'[id]? = H[id]?) : eff G R C op ev' H' nid = eff G R C op ev H nid := by
  unfold eff
  rw [aval0_congr he hr, amem_congr he hr, R.congr op ev ev' H H' nid he hr, acall_congr he]
  cases aval0 G op ev H with
  | some p => rfl
  | none => cases amem G op ev H nid with
    | some p => rfl
    | none => cases R.f op ev H nid with
      | some p => rfl
      | none =>
        cases hc : acall op ev with
        | none => rfl
        | some p =>
          obtain ⟨f, args⟩ := p
          simp only
          cases op with
          | call c =>
            have hd : ∀ a ∈ args, ∀ id ∈ refD a, H'[id]? = H[id]? := by
              intro a ha id hid
              simp only [acall] at hc
              split at hc
              · rename_i fo hfo
                split at hc
                · rename_i f' first caps hfo'
                  simp only [Option.some.injEq, Prod.mk.injEq] at hc
                  obtain ⟨_, rfl⟩ := hc
                  have hm : ∀ x ∈ c.args.toList, id ∈ refId (ev x) → H'[id]? = H[id]? := fun x hx h => hr id (by
                    simp only [readsE]
                    exact List.mem_append_left _ (mem_refIds (by simp [Op.operands, Call.operands]; right; simpa using hx) h))
                  have hf : id ∈ refId (ev fo) → H'[id]? = H[id]? := fun h => hr id (by
                    simp only [readsE]
                    exact List.mem_append_left _ (mem_refIds (by simp [Op.operands, Call.operands, hfo]) h))
                  rw [hfo'] at hf
                  simp only [refId, List.mem_append, List.mem_flatMap] at hf
                  rcases List.mem_append.1 ha with h | h
                  · exact hf (.inl ⟨a, h, hid⟩)
                  · rcases List.mem_append.1 h with h | h
                    · obtain ⟨x, hx, rfl⟩ := List.mem_map.1 h
                      exact hm x hx (refD_sub hid)
                    · exact hf (.inr ⟨a, h, hid⟩)
                · simp at hc
              · simp at hc
            rw [giftE_congr hd, R.preC H H' args hd]
            cases giftE G C f args H with
            | some E => rfl
            | none =>
            simp only
            split
            case h_2 => rfl
            rename_i p args1 u hpre
            rw [callE_congr (args := args1) (H := updH H u) (H' := updH H' u) (fun a ha id hid => by
              obtain ⟨b, hb, hid'⟩ := R.preR _ _ _ _ _ hpre a ha id hid
              exact updH_point u (hd b hb id hid')) (fun j hj => updH_point u ?_)]
            · refine hr _ ?_
              simp only [readsE]
              refine List.mem_append_right _ ?_
              simp only [acall] at hc
              split at hc
              · rename_i fo hfo
                simp only [slots, hfo]
                simp only [callSlots] at hj
                simp only [callSlots, upTo, List.mem_cons, List.not_mem_nil, or_false]
                omega
              · simp at hc
          | _ => simp [acall] at hc
end
end
end Go.V

/- The abstract layer (third state), part D: effects hold; guarded steps. -/
set_option linter.unusedSimpArgs false
set_option linter.unusedVariables false
namespace Go.V
open Go
noncomputable section

section
variable {P : Program} {G : Env P} {ρ : Rho} {I : Imm} {H : Heap} {w : World}

theorem RL_rowsTake {k : Nat} : ∀ {rows : List AV} {vs : List Value} (n : Nat), (∀ a ∈ rows, szA a = k) → RL ρ I w rows vs → RL ρ I w (rows.take n) (vs.take (n * k))
  | _, _, 0, _, _ => by simp [RL]
  | [], _, n + 1, _, h => by cases h; simp [RL]
  | a :: as, _, n + 1, hk, ⟨ys, zs, h0, h1, h2⟩ => by
    subst h0
    have hl := R_len a ys h1
    rw [hk a (by simp)] at hl
    rw [List.take_succ_cons]
    refine ⟨ys, zs.take (n * k), ?_, h1, RL_rowsTake n (fun b hb => hk b (by simp [hb])) h2⟩
    rw [Nat.add_mul, Nat.one_mul, Nat.add_comm, List.take_append, hl]
    rw [List.take_of_length_le (by omega), Nat.add_sub_cancel_left]

/-- What the caller lends. -/
def lentI (b : Bool) (I : Imm) (w : World) : Imm := fun x o => if b then x < w.heap.size else I x o

theorem lent_sub (c : Conc G.g ρ I H w) (b : Bool) : (∀ x o, I x o → lentI b I w x o) ∧ (∀ x o, lentI b I w x o → x < w.heap.size) := by
  refine ⟨fun x o h => ?_, fun x o h => ?_⟩ <;> unfold lentI at *
  · split
    · exact (c.imm x o h).1
    · exact h
  · split at h
    · exact h
    · exact (c.imm x o h).1

theorem lent_mono (c : Conc G.g ρ I H w) {b d : Bool} (hbd : b = true → d = true) : Mono ρ (lentI b I w) w ρ (lentI d I w) w :=
  ⟨fun _ _ h => h, fun x o h => ⟨by
    cases d
    · have : b = false := by cases b <;> simp_all
      rw [this] at h; exact h
    · exact (lent_sub c b).2 x o h, rfl⟩, fun _ h => ⟨h, rfl⟩⟩

theorem lend1_sound (c : Conc G.g ρ I H w) {a x : AV} {p b : Bool} {v : Value} (h : lend1 H a = some (p, x, b)) (hp : p = true) (r : rel ρ I w a v) : rel ρ (lentI b I w) w x v := by
  cases a with
  | sl id off k len =>
    simp only [lend1] at h
    have rs := rel_sl.1 r
    split at h
    · rename_i k' rows f he
      simp only [Option.some.injEq, Prod.mk.injEq] at h
      obtain ⟨rfl, rfl, rfl⟩ := h
      simp only [Bool.and_eq_true, beq_iff_eq] at hp
      obtain ⟨⟨rfl, rfl⟩, hle⟩ := hp
      have hle := leB_iff.1 hle
      obtain ⟨hev, hg⟩ := c.grow id _ he rfl
      have hev' : ∀ a ∈ rows, szA a = k := hev
      refine rel_vec.2 ⟨fun a ha => hev' a (List.mem_of_mem_take ha), ?_⟩
      rcases rs with ⟨bl, cap, h1, rfl, h3, h4, h5⟩ | ⟨rfl, a, rfl⟩
      · rcases hg with ⟨g1, _⟩ | ⟨b', el, fr, us, rest, g1, g2, g3, g4⟩
        · rw [g1] at h1; simp at h1
        · rw [g1] at h1
          simp only [Option.some.injEq] at h1
          subst h1
          refine ⟨us.take (len * k), RL_mono (ρ := ρ) (I := I) (w := w) ⟨fun _ _ h => h, fun x o h => ⟨(lent_sub c true).1 x o h, rfl⟩, fun _ h => ⟨h, rfl⟩⟩ _ _ (RL_rowsTake len hev' g3), some ⟨b', 0, none⟩, cap, ?_, ?_, by simp, .inr ⟨b', 0, rfl, h4, ?_⟩⟩
          · rw [List.length_take, Nat.min_eq_left hle]
          · rw [List.length_take, Nat.min_eq_left hle]; exact h3
          · intro i y hy
            refine ⟨?_, by simp only [lentI, if_true]; exact h4⟩
            rw [Nat.zero_add, cell_of_heap g2]
            have hi := (List.getElem?_eq_some_iff.1 hy).1
            rw [List.getElem?_take] at hy
            split at hy
            · rw [List.getElem?_append_left (List.getElem?_eq_some_iff.1 hy).1]; exact hy
            · simp at hy
      · exact ⟨[], by simp [RL], a, 0, by simp, by simp, by simp, .inl (by simp)⟩
    · split at h
      · rename_i c' l hc
        simp only [Option.some.injEq, Prod.mk.injEq] at h
        obtain ⟨rfl, rfl, rfl⟩ := h
        obtain ⟨y, cap, rfl, hcs⟩ := content8_sound c hc hp r
        rw [rel_vec8]
        have hcap : l.length ≤ cap := by
          rcases rs with ⟨bl, cap', h1, h2, h3, h4, h5⟩ | ⟨h1, a, h2⟩
          · simp only [Value.slice.injEq] at h2; omega
          · simp only [Value.slice.injEq] at h2; omega
        refine ⟨y, cap, rfl, hcap, by simp, ?_⟩
        rcases hcs with rfl | ⟨b', off', rfl, hcell⟩
        · exact .inl rfl
        · rcases Nat.eq_zero_or_pos l.length with hz | hz
          · exact .inl hz
          · have hb : b' < w.heap.size := by
              have := hcell 0 _ (v8_get hz)
              unfold World.cell? at this
              split at this
              · rename_i hq; exact (Array.getElem?_eq_some_iff.1 hq).1
              · simp at this
            exact .inr ⟨b', off', rfl, hb, fun i y hy => ⟨hcell i y hy, by simp only [lentI, if_true]; exact hb⟩⟩
      · simp at h
  | slv id k n f =>
    simp only [lend1, Option.some.injEq, Prod.mk.injEq] at h
    obtain ⟨_, rfl, rfl⟩ := h
    exact rel_mono (ρ := ρ) (I := I) (w := w) ⟨fun _ _ h => h, fun x o h => ⟨(lent_sub c false).1 x o h, rfl⟩, fun _ h => ⟨h, rfl⟩⟩ (rel_slv.1 r).1
  | _ =>
    simp only [lend1, Option.some.injEq, Prod.mk.injEq] at h
    obtain ⟨_, rfl, rfl⟩ := h
    exact rel_mono (ρ := ρ) (I := I) (w := w) ⟨fun _ _ h => h, fun x o h => ⟨(lent_sub c false).1 x o h, rfl⟩, fun _ h => ⟨h, rfl⟩⟩ r

theorem lend_sound (c : Conc G.g ρ I H w) : ∀ {args xs : List AV} {p b : Bool} {vs : List Value}, lend H args = some (p, xs, b) → p = true → RV ρ I w args vs → RV ρ (lentI b I w) w xs vs
  | [], xs, p, b, vs, h, _, r => by
    simp only [lend, Option.some.injEq, Prod.mk.injEq] at h
    obtain ⟨_, rfl, _⟩ := h
    exact r
  | a :: as, xs, p, b, vs, h, hp, r => by
    simp only [lend] at h
    split at h
    · rename_i c1 x b1 h1
      split at h
      · rename_i d ys b2 h2
        simp only [Option.some.injEq, Prod.mk.injEq] at h
        obtain ⟨rfl, rfl, rfl⟩ := h
        simp only [Bool.and_eq_true] at hp
        obtain ⟨y, zs, rfl, k1, k2⟩ := RV_cons.1 r
        refine RV_cons.2 ⟨y, zs, rfl, ?_, ?_⟩
        · exact rel_mono (lent_mono c (by intro h; simp [h])) (lend1_sound c h1 hp.1 k1)
        · exact RV_mono (lent_mono c (by intro h; simp [h])) _ _ (lend_sound c h2 hp.2 k2)
      · simp at h
    · simp at h

/-- The forms that a case of a call may take. -/
theorem outE_has {b : Bool} {H : Heap} {nid : Nat} : ∀ {out : Out} {v : AV} {u : List (Nat × Ent)}, (outE b H nid out).has v u →
    ∃ v0 H0, out.has v0 H0 ∧ v = renA (shift nid) v0 ∧ u = newsFrom (shift nid) nid H0 ∧ slotsOk H nid H0 = true ∧ (b = true → nvA v0 = true ∧ H0.all nvE = true)
  | .ret v0 H0, v, u, h => by
    obtain ⟨h1, h3, _, h4, h5⟩ := h
    simp only [Bool.and_eq_true, Bool.or_eq_true, Bool.not_eq_true'] at h1 h3
    exact ⟨v0, H0, ⟨rfl, rfl⟩, h4, h5, h1.2, fun hb => h3.resolve_left (by simp [hb])⟩
  | .alt true x y, v, u, h => outE_has (out := x) h
  | .alt false x y, v, u, h => outE_has (out := y) h

/-- The case that holds, alone. -/
theorem Out.has_det : ∀ {out : Out} {v v' : AV} {H H' : Heap}, out.has v H → out.has v' H' → v' = v ∧ H' = H
  | .ret v0 H0, _, _, _, _, ⟨h1, h2⟩, ⟨h3, h4⟩ => ⟨h3.trans h1.symm, h4.trans h2.symm⟩
  | .alt true x y, _, _, _, _, h, h' => Out.has_det (out := x) h h'
  | .alt false x y, _, _, _, _, h, h' => Out.has_det (out := y) h h'

theorem amem_sound (c : Conc G.g ρ I H w) {ev : Operand → AV} {e : Operand → Value} (r : ∀ x, rel ρ I w (ev x) (e x)) {o : Oper} {nid : Nat} {E : Eff} {v : AV} {u : List (Nat × Ent)}
    (h : amem G o.op ev H nid = some E) (hh : E.has v u) : EffOk G ρ I H w ((execOp e o).run P w) v u := by
  unfold amem at h
  split at h
  · rename_i t hop
    split at h
    · rename_i ti hti
      split at h
      · rename_i z hz
        simp only [Option.some.injEq] at h
        subst h
        obtain ⟨hc, rfl, rfl⟩ := hh
        simp only [Bool.and_eq_true, isRes_iff] at hc
        obtain ⟨j, d, h1, h2, h3, _, h5, h6, _⟩ := ty_ok hti
        obtain ⟨zv, hzv, hck⟩ := h6 z hz
        have hrun : (execOp e o).run P w = .ok (.value (.pointer (some ⟨w.heap.size, 0, none⟩))) (w.alloc (.cells zv.cells t)) := by
          simp [execOp, hop, Instr.alloc, zeroValue, run_typeInfo h1, hzv, newVar, newRow]
        have hr := R_cells (known_cells (chkV_sound hck ρ I w) hc.1)
        obtain ⟨g1, g2, g3⟩ := fill_gen (w' := w.alloc (.cells zv.cells t)) c hc.2 (.blk z.cells []) (some w.heap.size) (fun b hb => by simp at hb; subst hb; simp) (by simp) (fun b hb => alloc_old w _ hb) rfl
          (fun cs f he => by
            simp only [Ent.blk.injEq] at he
            obtain ⟨rfl, rfl⟩ := he
            exact ⟨_, t, (0, 0), zv.cells.toList, rfl, by simpa using alloc_new w _, hr, Nat.le_refl _, fun o _ => by simp⟩) (fun h => by simp [Ent.grows] at h) rfl rfl rfl
        exact ⟨_, _, .inl hrun, _, _, g1, g2, g3, rel_ptr.2 ⟨w.heap.size, by simp [bindR], rfl⟩⟩
      · simp at h
    · simp at h
  · rename_i t x hop
    simp only [Option.some.injEq] at h
    subst h
    obtain ⟨hc, rfl, rfl⟩ := hh
    simp only [Bool.and_eq_true, isRes_iff] at hc
    have hrun : (execOp e o).run P w = .ok (.value (.pointer (some ⟨w.heap.size, 0, none⟩))) (w.alloc (.cells (e x).cells t)) := by
      simp [execOp, hop, Instr.box, newVar, newRow]
    have hr := R_cells (known_cells (r x) hc.1)
    obtain ⟨g1, g2, g3⟩ := fill_gen (w' := w.alloc (.cells (e x).cells t)) c hc.2 (.blk (ev x).cells []) (some w.heap.size) (fun b hb => by simp at hb; subst hb; simp) (by simp) (fun b hb => alloc_old w _ hb) rfl
      (fun cs f he => by
        simp only [Ent.blk.injEq] at he
        obtain ⟨rfl, rfl⟩ := he
        exact ⟨_, t, (0, 0), (e x).cells.toList, rfl, by simpa using alloc_new w _, hr, Nat.le_refl _, fun o _ => by simp⟩) (fun h => by simp [Ent.grows] at h) rfl rfl rfl
    exact ⟨_, _, .inl hrun, _, _, g1, g2, g3, rel_ptr.2 ⟨w.heap.size, by simp [bindR], rfl⟩⟩
  · rename_i t a x hop
    split at h
    · rename_i b id e1 hs
      simp only [Option.some.injEq] at h
      subst h
      obtain ⟨hc, rfl, rfl⟩ := hh
      obtain ⟨w', h1, h2, h3, h4⟩ := store_sound c r hop hs hc
      exact ⟨undef, w', .inr ⟨h1, rfl⟩, ρ, I, h2, h3, h4, rel_undef⟩
    · simp at h
  · simp at h

/-- What comes after an effect. -/
def After (G : Env P) (ρ : Rho) (I : Imm) (H : Heap) (w : World) (a : Act) (o : Oper) (v : AV) (u : List (Nat × Ent)) (next : Act → World → Prop) : Prop :=
  ∀ (ρ' : Rho) (I' : Imm) (x : Value) (w' : World), Good ρ I H w ρ' I' (updH H u) w' → Conc G.g ρ' I' (updH H u) w' → Mono ρ I w ρ' I' w' → rel ρ' I' w' v x → next (a.put o.dst x) w'

theorem EffOk.upon {v : AV} {u : List (Nat × Ent)} {o : Oper} {a : Act} {next : Act → World → Prop} {Q : Exit → Act → World → Prop} {res : Result Next} (h : EffOk G ρ I H w res v u) (hn : After G ρ I H w a o v u next) : o.upon P a next Q res := by
  obtain ⟨x, w', hres, ρ', I', h1, h2, h3, h4⟩ := h
  rcases hres with rfl | ⟨rfl, rfl⟩
  · exact hn ρ' I' x w' h1 h2 h3 h4
  · exact hn ρ' I' undef w' h1 h2 h3 h4

/-- Such a call, out of a frame: the slice's number is dead behind it. -/
theorem GCall.frame {f : FuncId} {v : AV} {id k n : Nat} {fr : Nat → List AV} {rest : List AV} (h : GCall G f (.slv 0 k n fr :: rest) v) (c : Conc G.g ρ I H w) (hid : H[id]? = some (.tail k n)) {vs : List Value} (r : RV ρ I w (.slv id k n fr :: rest) vs) :
    Calls P f vs.toArray w fun e w' => ∃ x, e = .returned x ∧ ∃ (ρ' : Rho) (I' : Imm), Good ρ I H w ρ' I' (updH H [(id, .dead)]) w' ∧ Conc G.g ρ' I' (updH H [(id, .dead)]) w' ∧ Mono ρ I w ρ' I' w' ∧ rel ρ' I' w' v x := by
  obtain ⟨hpv, k', n', fr', rest', hargs, hrest, hcall⟩ := h
  simp only [List.cons.injEq, AV.slv.injEq, true_and] at hargs
  obtain ⟨⟨rfl, rfl, rfl⟩, rfl⟩ := hargs
  let ρ0 : Rho := fun j => if j = 0 then ρ id else none
  have mut0 : ∀ b o, Mut ρ0 [.tail k n] b o → Mut ρ H b o := by
    rintro b o ⟨i, e, h1, h2, h3, h4⟩
    cases i with
    | zero =>
      simp only [List.getElem?_cons_zero, Option.some.injEq] at h1
      subst h1
      exact ⟨id, _, hid, h2, h3, h4⟩
    | succ i => simp at h1
  have gone : ∀ i e, (updH H [(id, .dead)])[i]? = some e → (i = id ∧ e = .dead) ∨ (i ≠ id ∧ H[i]? = some e) := by
    intro i e h1
    simp only [updH] at h1
    rw [List.getElem?_set] at h1
    by_cases hi : id = i
    · subst hi
      rw [if_pos rfl] at h1
      split at h1
      · simp only [Option.some.injEq] at h1; exact .inl ⟨rfl, h1.symm⟩
      · simp at h1
    · rw [if_neg hi] at h1; exact .inr ⟨fun e => hi e.symm, h1⟩
  have c0 : Conc G.g ρ0 I [.tail k n] w := by
    refine ⟨?_, ?_, ?_, ?_, ?_, ?_, ?_, c.glob⟩
    · intro j hj
      by_cases h : j = 0
      · subst h; simp
      · exact absurd (if_neg h) hj
    · intro j hj
      cases j <;> simp at hj
    · intro j b hj
      by_cases h : j = 0
      · subst h; exact c.blt id b hj
      · rw [show ρ0 j = none from if_neg h] at hj; simp at hj
    · intro i j b e e' h1 _ h2 _ _ _
      cases i with
      | zero => cases j with
        | zero => rfl
        | succ j => simp at h2
      | succ i => simp at h1
    · intro j cs f hj
      cases j <;> simp at hj
    · intro j e hj hg
      cases j with
      | zero =>
        simp only [List.getElem?_cons_zero, Option.some.injEq] at hj
        subst hj
        obtain ⟨q, hq⟩ := c.grow id _ hid hg
        refine ⟨q, ?_⟩
        rcases hq with hq | ⟨b, el, f', us, rs, q1, q2, q3, q4⟩
        · exact .inl hq
        · exact .inr ⟨b, el, f', us, rs, q1, q2, RL_refs (n := 0) (fun _ h => by omega) _ _ rfl q3, q4⟩
      | succ j => simp at hj
    · exact fun b o hb => ⟨(c.imm b o hb).1, fun hm => (c.imm b o hb).2 (mut0 b o hm)⟩
  have r0 : RV ρ0 I w (.slv 0 k n fr :: rest) vs := by
    obtain ⟨x, xs, rfl, k1, k2⟩ := RV_cons.1 r
    refine RV_cons.2 ⟨x, xs, rfl, ?_, RV_pure hrest k2⟩
    obtain ⟨j1, j2⟩ := rel_slv.1 k1
    exact rel_slv.2 ⟨rel_pure rfl j1, j2⟩
  refine (hcall ρ0 I w vs c0 r0).mono ?_
  rintro e w' ⟨x, rfl, ρ1, I1, v1, H1, g, c', hr, rfl⟩
  have hblk : ∀ i e b, H[i]? = some e → e.live = true → i ≠ id → ρ i = some (some b) → w'.heap[b]? = w.heap[b]? := by
    intro i e b h1 h2 h3 h4
    refine g.block b (c.blt i b h4) ?_
    rintro o ⟨j, e', q1, q2, q3, _⟩
    cases j with
    | zero => exact h3 (c.inj i id b e _ h1 h2 hid rfl h4 q3)
    | succ j => simp at q1
  have gd : Good ρ I H w ρ I1 (updH H [(id, .dead)]) w' := by
    refine ⟨fun _ _ h => h, ?_, by rw [updH_len]; exact Nat.le_refl _, g.imm, ?_, g.os, g.tape, g.out, g.size, ?_, ?_, g.bs, ?_, ?_⟩
    · rintro i y _ ⟨e, h1, h2⟩
      rcases gone i e h1 with ⟨_, rfl⟩ | ⟨_, h⟩
      · simp [Ent.grows] at h2
      · exact ⟨e, h, h2⟩
    · intro b o hb h
      rcases g.imm' b o hb h with h | h
      · exact .inl h
      · exact .inr (mut0 b o h)
    · exact fun b o hb h => g.cell b o hb fun hm => h (mut0 b o hm)
    · exact fun b hb h => g.block b hb fun o hm => h o (mut0 b o hm)
    · rintro b o _ ⟨i, e, h1, h2, h3, h4⟩
      rcases gone i e h1 with ⟨_, rfl⟩ | ⟨_, h⟩
      · simp [Ent.live] at h2
      · exact ⟨i, e, h, h2, h3, h4⟩
    · rintro b _ ⟨i, e, h1, h2, h3⟩
      rcases gone i e h1 with ⟨_, rfl⟩ | ⟨_, h⟩
      · simp [Ent.live] at h2
      · exact ⟨i, e, h, h2, h3⟩
  have m : Mono ρ I w ρ I1 w' := c.mono gd fun _ _ h => h
  refine ⟨x, rfl, ρ, I1, gd, ⟨?_, ?_, ?_, ?_, ?_, ?_, ?_, ?_⟩, m, rel_pure hpv hr⟩
  · intro i hi
    rw [updH_len]; exact c.dom i hi
  · intro i h1
    rcases gone i _ h1 with ⟨_, h⟩ | ⟨_, h⟩
    · simp at h
    · exact c.res i h
  · exact fun i b hb => Nat.lt_of_lt_of_le (c.blt i b hb) g.size
  · intro i j b e e' h1 l1 h2 l2 hb hb'
    rcases gone i e h1 with ⟨_, rfl⟩ | ⟨_, q1⟩
    · simp [Ent.live] at l1
    · rcases gone j e' h2 with ⟨_, rfl⟩ | ⟨_, q2⟩
      · simp [Ent.live] at l2
      · exact c.inj i j b e e' q1 l1 q2 l2 hb hb'
  · intro i cs f' h1
    rcases gone i _ h1 with ⟨_, h⟩ | ⟨hne, q⟩
    · simp at h
    · obtain ⟨b, el, fr', us, q1, q2, q3, q4⟩ := c.blk i cs f' q
      exact ⟨b, el, fr', us, q1, by rw [hblk i _ b q rfl hne q1]; exact q2, RL_mono m _ _ q3, q4⟩
  · intro i e h1 hg
    rcases gone i _ h1 with ⟨_, rfl⟩ | ⟨hne, q⟩
    · simp [Ent.grows] at hg
    · obtain ⟨ev, hq⟩ := c.grow i e q hg
      refine ⟨ev, ?_⟩
      rcases hq with hq | ⟨b, el, f', us, rs, q1, q2, q3, q4⟩
      · exact .inl hq
      · exact .inr ⟨b, el, f', us, rs, q1, by rw [hblk i e b q (by cases e <;> simp_all [Ent.grows, Ent.live]) hne q1]; exact q2, RL_mono m _ _ q3, q4⟩
  · intro b o hb
    refine ⟨(c'.imm b o hb).1, ?_⟩
    rintro ⟨i, e, h1, h2, h3, h4⟩
    rcases gone i _ h1 with ⟨_, rfl⟩ | ⟨hne, q⟩
    · simp [Ent.live] at h2
    · rcases g.imm' b o (c.blt i b h3) hb with h | ⟨j, e', q1, q2, q3, _⟩
      · exact (c.imm b o h).2 ⟨i, e, q, h2, h3, h4⟩
      · cases j with
        | zero => exact hne (c.inj i id b e _ q h2 hid rfl h3 q3)
        | succ j => simp at q1
  · intro a cs ha
    obtain ⟨us, k1, k2⟩ := c.glob a cs ha
    exact ⟨us, GL_mono m k1, k2.mono m.imm⟩

theorem eff_sound (R : ROps G) (T : Ctr G) (c : Conc G.g ρ I H w) {t : List AV} {a : Act} (r : RelT ρ I w t a) {o : Oper} {nid : Nat} {E : Eff} {v : AV} {u : List (Nat × Ent)}
    (h : eff G R T.C o.op (evA G t) H nid = some E) (hh : E.has v u) {next : Act → World → Prop} {Q : Exit → Act → World → Prop} (hn : After G ρ I H w a o v u next) : o.wp P a w next Q := by
  have re := rel_evA c r
  unfold eff at h
  unfold Oper.wp
  split at h
  · rename_i b v' hv
    simp only [Option.some.injEq] at h
    subst h
    obtain ⟨hc, rfl, rfl⟩ := hh
    obtain ⟨x, h1, h2⟩ := aval0_sound c re hv hc
    exact EffOk.upon ⟨x, w, .inl h1, ρ, I, Good.refl _ _ _ _, c, ⟨fun _ _ h => h, fun _ _ h => ⟨h, rfl⟩, fun _ h => ⟨h, rfl⟩⟩, h2⟩ hn
  · split at h
    · rename_i E' hv
      simp only [Option.some.injEq] at h
      subst h
      exact EffOk.upon (amem_sound c re hv hh) hn
    · split at h
      · rename_i E' hv
        simp only [Option.some.injEq] at h
        subst h
        exact EffOk.upon (R.sound ρ I H w c _ _ re o nid E' v u hv hh) hn
      · split at h
        · rename_i f args0 hcall
          split at h
          · rename_i E' hg
            simp only [Option.some.injEq] at h
            subst h
            unfold giftE at hg
            split at hg
            · rename_i id k n fr rest
              split at hg
              · rename_i pre v0 hC
                split at hg
                · rename_i k' n' hid
                  simp only [Option.some.injEq] at hg
                  subst hg
                  obtain ⟨hgo, hb, hpre, _, rfl, rfl⟩ := hh
                  simp only [Bool.and_eq_true, beq_iff_eq] at hb
                  obtain ⟨⟨rfl, rfl⟩, hpr, hpv⟩ := hb
                  obtain ⟨vs, h1, h2⟩ := acall_run re hcall (G.goOk f hgo)
                  rw [h1]
                  rcases T.ok f _ pre _ hC hpre with hc | ⟨v1, a1, hv1, ha1, hc⟩
                  · have := hc.pa
                    simp [pureL, pureA] at this
                  · simp only [Out.ret.injEq, and_true] at hv1
                    subst hv1
                    simp only [List.cons.injEq, AV.tup.injEq, true_and, and_true] at ha1
                    subst ha1
                    have := hc.frame c hid h2
                    rw [Array.toArray_toList] at this
                    refine Calls.mono this ?_
                    rintro e w' ⟨x, rfl, ρ', I', k2, k3, k4, k5⟩
                    exact hn ρ' I' x w' k2 k3 k4 k5
                · simp at hg
              · simp at hg
            · simp at hg
          rename_i hnog
          clear hnog
          split at h
          case h_2 => cases h
          rename_i p args u0 hpr
          split at h
          case h_2 => cases h
          rename_i E0 h0
          simp only [Option.some.injEq] at h
          subst h
          obtain ⟨hp0, hh⟩ := hh
          subst hp0
          obtain ⟨u1, rfl, hh1⟩ := Eff.pre_has hh
          obtain ⟨I1, d1, d2, d3, d4⟩ := R.preS ρ I H w c args0 args u0 hpr
          have h := h0
          unfold callE at h
          split at h
          · rename_i c1 args' b hl
            split at h
            · rename_i pre out hC
              simp only [Option.some.injEq] at h
              subst h
              obtain ⟨hgo, hpure, hc1, hpre, hh2⟩ := hh1
              obtain ⟨v0, H0, ho, rfl, rfl, hs, hnv⟩ := outE_has hh2
              obtain ⟨vs, h1, h2⟩ := acall_run re hcall (G.goOk f hgo)
              rw [h1]
              have h2 := d4 _ h2
              have hcal : HCall G f args' out := by
                rcases T.ok f args' pre out hC hpre with hc | ⟨_, _, _, rfl, hc⟩
                · exact hc
                · obtain ⟨_, _, _, _, _, rfl, _⟩ := hc
                  simp [pureL, pureA] at hpure
              obtain ⟨i1, i2⟩ := lent_sub d2 b
              have := hcal.frame d2 i1 i2 (by
                cases b
                · exact .inl fun x o h => h
                · exact .inr fun v1 H1 h1 => by
                    obtain ⟨rfl, rfl⟩ := Out.has_det ho h1
                    exact hnv rfl) nid (fun v1 H1 h1 => by
                    obtain ⟨rfl, rfl⟩ := Out.has_det ho h1
                    exact hs) (lend_sound d2 hl hc1 h2)
              rw [Array.toArray_toList] at this
              refine Calls.mono this ?_
              rintro e w' ⟨x, rfl, v1, H1, ρ', I', k1, k2, k3, k4, k5⟩
              obtain ⟨rfl, rfl⟩ := Out.has_det ho k1
              exact hn ρ' I' x w' (by rw [updH_append]; exact d1.trans k2) (by rw [updH_append]; exact k3) (d3.trans' k4) k5
            · simp at h
          · simp at h
        · simp at h
end
end
end Go.V

/- The abstract layer (third state), part E: steps in the order of the text, and statements whose order is open. -/
set_option linter.unusedSimpArgs false
set_option linter.unusedVariables false
namespace Go.V
open Go
noncomputable section

/-- Where a walk does not go on. -/
def stuckAt : Oper → St → Prop := (sealed fun _ _ => False).val
theorem stuckAt_no {o : Oper} {s : St} (h : stuckAt o s) : False := by
  rw [stuckAt, (sealed fun (_ : Oper) (_ : St) => False).property] at h; exact h
def stuckIn : Nat → AV → Prop := (sealed fun _ _ => False).val
theorem stuckIn_no {n : Nat} {v : AV} (h : stuckIn n v) : False := by
  rw [stuckIn, (sealed fun (_ : Nat) (_ : AV) => False).property] at h; exact h

/-- What an operation does to a state: a temporary, entries; and which entries it hangs on. -/
structure DEff where
  dst : Option Tmp
  val : AV
  upd : List (Nat × Ent)
  reads : List Nat

def applyE (e : DEff) (s : St) : St := ⟨putA s.t e.dst e.val, updH s.H e.upd⟩

/-- Numbers kept at the end, and given back. -/
def extH (H : Heap) : Nat → Heap
  | 0 => H
  | n + 1 => H ++ List.replicate (n + 1) .res
def trim : Nat → Heap → Heap
  | 0, H => H
  | k + 1, H => match H.getLast? with
    | some .res => trim k H.dropLast
    | _ => H

/- What is passed on is written out first, so that nothing is reckoned twice. (By recursors alone: the kernel is quick at them.) -/
def fA (a : AV) : (AV → Prop) → Prop := AV.rec (motive_1 := fun _ => (AV → Prop) → Prop) (motive_2 := fun _ => (List AV → Prop) → Prop) (fun k => k (.any)) (fun v  k => k (.raw v)) (fun q n  k => k (.int q n)) (fun x  k => k (.u8 x)) (fun x  k => k (.u32 x)) (fun x  k => k (.u64 x)) (fun b  k => k (.bool b)) (fun s  k => k (.str s)) (fun n l  k => k (.b8 n l)) (fun n l  k => k (.w32 n l)) (fun n l  k => k (.w64 n l)) (fun n l  k => k (.n64 n l)) (fun i o  k => k (.ptr i o)) (fun i o n x  k => k (.pix i o n x)) (fun i o n l  k => k (.sl i o n l)) (fun f l  k => k (.vec8 f l)) (fun f n r _ k => k (.vec f n r)) (fun f n m r _ k => k (.vecr f n m r)) (fun i n m r _ k => k (.slv i n m r)) (fun c i _ k => k (.vp c i)) (fun c o n i _ k => k (.vpx c o n i)) (fun f a b iha ihb k => iha fun a' => ihb fun b' => k (.fn f a' b')) (fun l ih k => ih fun l' => k (.agg l')) (fun l ih k => ih fun l' => k (.tup l')) (fun k => k []) (fun _ _ iha ihl k => iha fun a' => ihl fun as' => k (a' :: as')) a
def fL (l : List AV) : (List AV → Prop) → Prop := AV.rec_1 (motive_1 := fun _ => (AV → Prop) → Prop) (motive_2 := fun _ => (List AV → Prop) → Prop) (fun k => k (.any)) (fun v  k => k (.raw v)) (fun q n  k => k (.int q n)) (fun x  k => k (.u8 x)) (fun x  k => k (.u32 x)) (fun x  k => k (.u64 x)) (fun b  k => k (.bool b)) (fun s  k => k (.str s)) (fun n l  k => k (.b8 n l)) (fun n l  k => k (.w32 n l)) (fun n l  k => k (.w64 n l)) (fun n l  k => k (.n64 n l)) (fun i o  k => k (.ptr i o)) (fun i o n x  k => k (.pix i o n x)) (fun i o n l  k => k (.sl i o n l)) (fun f l  k => k (.vec8 f l)) (fun f n r _ k => k (.vec f n r)) (fun f n m r _ k => k (.vecr f n m r)) (fun i n m r _ k => k (.slv i n m r)) (fun c i _ k => k (.vp c i)) (fun c o n i _ k => k (.vpx c o n i)) (fun f a b iha ihb k => iha fun a' => ihb fun b' => k (.fn f a' b')) (fun l ih k => ih fun l' => k (.agg l')) (fun l ih k => ih fun l' => k (.tup l')) (fun k => k []) (fun _ _ iha ihl k => iha fun a' => ihl fun as' => k (a' :: as')) l
mutual
theorem fA_eq : ∀ (a : AV) (k : AV → Prop), fA a k = k a
  | .agg l, k => fL_eq l fun l' => k (.agg l')
  | .tup l, k => fL_eq l fun l' => k (.tup l')
  | .fn f a b, k => (fL_eq a fun a' => fL b fun b' => k (.fn f a' b')).trans (fL_eq b fun b' => k (.fn f a b'))
  | .any, k => rfl
  | .raw _, k => rfl
  | .int _ _, k => rfl
  | .u8 _, k => rfl
  | .u32 _, k => rfl
  | .u64 _, k => rfl
  | .bool _, k => rfl
  | .str _, k => rfl
  | .b8 _ _, k => rfl
  | .w32 _ _, k => rfl
  | .w64 _ _, k => rfl
  | .n64 _ _, k => rfl
  | .ptr _ _, k => rfl
  | .pix _ _ _ _, k => rfl
  | .sl _ _ _ _, k => rfl
  | .vec8 _ _, k => rfl
  | .vec _ _ _, k => rfl
  | .vecr _ _ _ _, k => rfl
  | .slv _ _ _ _, k => rfl
  | .vp _ _, k => rfl
  | .vpx _ _ _ _, k => rfl
theorem fL_eq : ∀ (l : List AV) (k : List AV → Prop), fL l k = k l
  | [], k => rfl
  | a :: as, k => (fA_eq a fun a' => fL as fun as' => k (a' :: as')).trans (fL_eq as fun as' => k (a :: as'))
end
/-- Which numbers a value hangs on: the same question, put by recursors. -/
def qA (n : Nat) (a : AV) : Bool := AV.rec (motive_1 := fun _ => Bool) (motive_2 := fun _ => Bool) true (fun _ => true) (fun _ _ => true) (fun _ => true) (fun _ => true) (fun _ => true) (fun _ => true) (fun _ => true) (fun _ _ => true) (fun _ _ => true) (fun _ _ => true) (fun _ _ => true) (fun i _ => n - i != 0) (fun i _ _ _ => n - i != 0) (fun i _ _ _ => n - i != 0) (fun _ _ => true) (fun _ _ _ ih => ih) (fun _ _ _ _ _ => true) (fun i _ _ _ _ => n - i != 0) (fun _ _ ih => ih) (fun _ _ _ _ ih => ih) (fun _ _ _ iha ihb => iha && ihb) (fun _ ih => ih) (fun _ ih => ih) true (fun _ _ iha ihl => iha && ihl) a
def qL (n : Nat) (l : List AV) : Bool := AV.rec_1 (motive_1 := fun _ => Bool) (motive_2 := fun _ => Bool) true (fun _ => true) (fun _ _ => true) (fun _ => true) (fun _ => true) (fun _ => true) (fun _ => true) (fun _ => true) (fun _ _ => true) (fun _ _ => true) (fun _ _ => true) (fun _ _ => true) (fun i _ => n - i != 0) (fun i _ _ _ => n - i != 0) (fun i _ _ _ => n - i != 0) (fun _ _ => true) (fun _ _ _ ih => ih) (fun _ _ _ _ _ => true) (fun i _ _ _ _ => n - i != 0) (fun _ _ ih => ih) (fun _ _ _ _ ih => ih) (fun _ _ _ iha ihb => iha && ihb) (fun _ ih => ih) (fun _ ih => ih) true (fun _ _ iha ihl => iha && ihl) l
mutual
theorem qA_eq (n : Nat) : ∀ a : AV, qA n a = refsA n a
  | .agg l => qL_eq n l
  | .tup l => qL_eq n l
  | .vec _ _ l => qL_eq n l
  | .vp l _ => qL_eq n l
  | .vpx l _ _ _ => qL_eq n l
  | .fn _ a b => by show (qL n a && qL n b) = (refsL n a && refsL n b); rw [qL_eq n a, qL_eq n b]
  | .any => rfl
  | .raw _ => rfl
  | .int _ _ => rfl
  | .u8 _ => rfl
  | .u32 _ => rfl
  | .u64 _ => rfl
  | .bool _ => rfl
  | .str _ => rfl
  | .b8 _ _ => rfl
  | .w32 _ _ => rfl
  | .w64 _ _ => rfl
  | .n64 _ _ => rfl
  | .ptr _ _ => rfl
  | .pix _ _ _ _ => rfl
  | .sl _ _ _ _ => rfl
  | .vec8 _ _ => rfl
  | .vecr _ _ _ _ => rfl
  | .slv _ _ _ _ => rfl
theorem qL_eq (n : Nat) : ∀ l : List AV, qL n l = refsL n l
  | [] => rfl
  | a :: as => by show (qA n a && qL n as) = (refsA n a && refsL n as); rw [qA_eq n a, qL_eq n as]
end
/-- A temporary is written. -/
def fSet (t : List AV) : Nat → AV → (List AV → Prop) → Prop :=
  @List.rec AV (fun _ => Nat → AV → (List AV → Prop) → Prop) (fun _ _ k => k []) (fun a as ih d v k => @Nat.rec (fun _ => Prop) (k (v :: as)) (fun n _ => ih n v fun t' => k (a :: t')) d) t
theorem fSet_eq : ∀ (l : List AV) (n : Nat) (v : AV) (k : List AV → Prop), fSet l n v k = k (l.set n v)
  | [], _, _, _ => rfl
  | _ :: _, 0, _, _ => rfl
  | a :: as, n + 1, v, k => fSet_eq as n v fun t' => k (a :: t')
def fPut (t : List AV) (d : Option Tmp) (v : AV) (k : List AV → Prop) : Prop := match d with
  | none => k t
  | some d => fA v fun v' => fSet t d v' k
theorem fPut_eq (t : List AV) (d : Option Tmp) (v : AV) (k : List AV → Prop) : fPut t d v k = k (putA t d v) := by
  cases d <;> simp [fPut, putA, fA_eq, fSet_eq]
def fE : Ent → (Ent → Prop) → Prop
  | .dead, k => k .dead
  | .res, k => k .res
  | .blk c f, k => fL c fun c' => k (.blk c' f)
  | .grow8 l f, k => k (.grow8 l f)
  | .grow n r f, k => k (.grow n r f)
  | .tail n m, k => k (.tail n m)
theorem fE_eq (e : Ent) (k : Ent → Prop) : fE e k = k e := by cases e <;> simp [fE, fL_eq]
def fH (H : Heap) : (Heap → Prop) → Prop :=
  @List.rec Ent (fun _ => (Heap → Prop) → Prop) (fun k => k []) (fun e _ ih k => fE e fun e' => ih fun r' => k (e' :: r')) H
theorem fH_eq : ∀ (H : Heap) (k : Heap → Prop), fH H k = k H
  | [], _ => rfl
  | e :: r, k => (fE_eq e fun e' => fH r fun r' => k (e' :: r')).trans (fH_eq r fun r' => k (e :: r'))
/-- An entry is written. -/
def fSetH (H : Heap) : Nat → Ent → (Heap → Prop) → Prop :=
  @List.rec Ent (fun _ => Nat → Ent → (Heap → Prop) → Prop) (fun _ _ k => k []) (fun a as ih d v k => @Nat.rec (fun _ => Prop) (k (v :: as)) (fun n _ => ih n v fun t' => k (a :: t')) d) H
theorem fSetH_eq : ∀ (l : Heap) (n : Nat) (v : Ent) (k : Heap → Prop), fSetH l n v k = k (l.set n v)
  | [], _, _, _ => rfl
  | _ :: _, 0, _, _ => rfl
  | a :: as, n + 1, v, k => fSetH_eq as n v fun t' => k (a :: t')
/-- Some entries are written. -/
def fUpd (H : Heap) (u : List (Nat × Ent)) (k : Heap → Prop) : Prop := match u with
  | [] => k H
  | [(i, e)] => fE e fun e' => fSetH H i e' k
  | u => fH (updH H u) k
theorem fUpd_eq (H : Heap) (u : List (Nat × Ent)) (k : Heap → Prop) : fUpd H u k = k (updH H u) := by
  unfold fUpd
  split
  · rfl
  · rw [fE_eq, fSetH_eq]; rfl
  · rw [fH_eq]
/-- .. with some new ones. -/
def fExt (n : Nat) (H : Heap) (u : List (Nat × Ent)) (k : Heap → Prop) : Prop := match n with
  | 0 => fUpd H u k
  | n + 1 => fH (trim (n + 1) (updH (extH H (n + 1)) u)) k
theorem fExt_eq (n : Nat) (H : Heap) (u : List (Nat × Ent)) (k : Heap → Prop) : fExt n H u k = k (trim n (updH (extH H n) u)) := by
  cases n with
  | zero => exact fUpd_eq H u k
  | succ n => exact fH_eq _ k
def fN (l : List Nat) : (List Nat → Prop) → Prop :=
  @List.rec Nat (fun _ => (List Nat → Prop) → Prop) (fun k => k []) (fun a _ ih k => ih fun as' => k (a :: as')) l
theorem fN_eq : ∀ (l : List Nat) (k : List Nat → Prop), fN l k = k l
  | [], _ => rfl
  | a :: as, k => fN_eq as fun as' => k (a :: as')
def fU (l : List (Nat × Ent)) : (List (Nat × Ent) → Prop) → Prop :=
  @List.rec (Nat × Ent) (fun _ => (List (Nat × Ent) → Prop) → Prop) (fun k => k []) (fun p _ ih k => fE p.2 fun e' => ih fun r' => k ((p.1, e') :: r')) l
theorem fU_eq : ∀ (l : List (Nat × Ent)) (k : List (Nat × Ent) → Prop), fU l k = k l
  | [], _ => rfl
  | (i, e) :: r, k => (fE_eq e fun e' => fU r fun r' => k ((i, e') :: r')).trans (fU_eq r fun r' => k ((i, e) :: r'))
/-- What is known of a temporary behind a question. -/
def setB (t : List AV) (d : Nat) (b : Bool) (k : List AV → Prop) : Prop := fSet t d (.bool b) k
theorem setB_eq {t : List AV} {d : Nat} {b : Bool} {k : List AV → Prop} (h : t.getD d .any = .bool b) : setB t d b k = k t := by
  unfold setB
  rw [fSet_eq]
  congr 1
  apply List.ext_getElem?
  intro i
  rw [List.getElem?_set]
  split
  · rename_i e; subst e
    split
    · rename_i hl
      rw [List.getD_eq_getElem?_getD, List.getElem?_eq_getElem hl] at h
      rw [List.getElem?_eq_getElem hl]; simpa using h.symm
    · rename_i hl; simp; omega
  · rfl

section
variable {P : Program} (G : Env P) (R : ROps G) (C : FuncId → List AV → Option (Bool × Out))

def dstep (nid : Nat) (o : Oper) (s : St) (K : DEff → Prop) : Prop :=
  match eff G R C o.op (evA G s.t) s.H nid with
  | some E => E.go fun v u => fA v fun v => fU u fun u => fN (readsE (evA G s.t) o.op nid (slots G o.op) ++ u.map (·.1)) fun rs => K ⟨o.dst, v, u, rs⟩
  | none => stuckAt o s

def dgstep (ops : Array Oper) (nid : Nat) (o : Oper) (s : St) (K : List AV → DEff → Prop) : Prop :=
  match o.guard with
  | none => dstep G R C nid o s (K s.t)
  | some (j, want) =>
    match (ops[j]?).bind (·.dst) with
    | none => K s.t ⟨o.dst, .tup [], [], []⟩
    | some d =>
      match tget s.t d with
      | .bool b => ifW b want (setB s.t d want fun t => dstep G R C nid o ⟨t, s.H⟩ (K t)) (setB s.t d (!want) fun t => K t ⟨o.dst, .tup [], [], []⟩)
      | .tup _ => K s.t ⟨o.dst, .tup [], [], []⟩
      | _ => stuckAt o s

def dops (ops : Array Oper) : List Oper → Nat → St → List DEff → (St → List DEff → Prop) → Prop
  | [], _, s, tr, K => K s tr
  | o :: rest, nid, s, tr, K => dgstep G R C ops nid o s fun t e => fPut t e.dst e.val fun t => fUpd s.H e.upd fun H => dops ops rest (nid + slots G o.op) ⟨t, H⟩ (tr ++ [e]) K

/-- A step in the order of the text; 'cl': a call whose value is not known ahead. -/
def sstep (cl : FuncId → List AV → St → Option Tmp → (St → Prop) → Prop) (o : Oper) (s : St) (K : St → Prop) : Prop :=
  match aval0 G o.op (evA G s.t) s.H with
  | some (c, v) => cnd c (fPut s.t o.dst v fun t => K ⟨t, s.H⟩)
  | none =>
    match eff G R C o.op (evA G s.t) (extH s.H (slots G o.op)) s.H.length with
    | some E => E.go fun v u => fPut s.t o.dst v fun t => fExt (slots G o.op) s.H u fun H => K ⟨t, H⟩
    | none =>
      match acall o.op (evA G s.t) with
      | some (f, args) => cnd (G.go f) (cl f args s o.dst K)
      | none => stuckAt o s

def sgstep (cl : FuncId → List AV → St → Option Tmp → (St → Prop) → Prop) (ops : Array Oper) (o : Oper) (s : St) (K : St → Prop) : Prop :=
  match o.guard with
  | none => sstep G R C cl o s K
  | some (j, want) =>
    match (ops[j]?).bind (·.dst) with
    | none => fPut s.t o.dst (.tup []) fun t => K ⟨t, s.H⟩
    | some d =>
      match tget s.t d with
      | .bool b => ifW b want (setB s.t d want fun t => sstep G R C cl o ⟨t, s.H⟩ K) (setB s.t d (!want) fun t => fPut t o.dst (.tup []) fun t => K ⟨t, s.H⟩)
      | .tup _ => fPut s.t o.dst (.tup []) fun t => K ⟨t, s.H⟩
      | _ => stuckAt o s

def sops (cl : FuncId → List AV → St → Option Tmp → (St → Prop) → Prop) (ops : Array Oper) : List Oper → St → (St → Prop) → Prop
  | [], s, K => K s
  | o :: rest, s, K => sgstep G R C cl ops o s fun s' => sops cl ops rest s' K
end

section
variable {P : Program} {G : Env P} {ρ : Rho} {I : Imm} {H : Heap} {w : World}

/-- Two states look the same to an operation. -/
structure Agree {P : Program} (G : Env P) (ops : Array Oper) (o : Oper) (rs : List Nat) (s s' : St) : Prop where
  look : ∀ t ∈ o.looksAt ops, s'.t.getD t .any = s.t.getD t .any
  read : ∀ id ∈ rs, s'.H[id]? = s.H[id]?

theorem Agree.ev {ops : Array Oper} {o : Oper} {rs : List Nat} {s s' : St} (h : Agree G ops o rs s s') {x : Operand} (hx : x ∈ o.op.operands) : evA G s'.t x = evA G s.t x := by
  cases x with
  | tmp t =>
    show tget _ _ = tget _ _
    rw [tget_eq, tget_eq]
    refine h.look t ?_
    unfold Oper.looksAt
    rw [List.mem_append]
    left
    rw [List.mem_filterMap]
    exact ⟨.tmp t, by simpa using hx, rfl⟩
  | _ => rfl

theorem Agree.mono {ops : Array Oper} {o : Oper} {rs rs' : List Nat} {s s' : St} (h : Agree G ops o rs s s') (hr : ∀ x ∈ rs', x ∈ rs) : Agree G ops o rs' s s' :=
  ⟨h.look, fun id hid => h.read id (hr id hid)⟩

/-- Numbers are kept for blocks to come. -/
theorem reserve_conc (c : Conc G.g ρ I H w) (n : Nat) : Good ρ I H w ρ I (H ++ List.replicate n .res) w ∧ Conc G.g ρ I (H ++ List.replicate n .res) w := by
  have hget : ∀ (i : Nat) (e : Ent), (H ++ List.replicate n .res)[i]? = some e → (H[i]? = some e) ∨ (H.length ≤ i ∧ e = .res) := by
    intro i e h
    rcases Nat.lt_or_ge i H.length with hi | hi
    · left; rwa [List.getElem?_append_left hi] at h
    · right
      rw [List.getElem?_append_right hi, List.getElem?_replicate] at h
      split at h
      · simp at h; exact ⟨hi, h.symm⟩
      · simp at h
  have live : ∀ (i : Nat) (e : Ent), (H ++ List.replicate n .res)[i]? = some e → e.live = true → H[i]? = some e := by
    intro i e h hl
    rcases hget i e h with h | ⟨_, rfl⟩
    · exact h
    · simp [Ent.live] at hl
  have g : Good ρ I H w ρ I (H ++ List.replicate n .res) w :=
    ⟨fun _ _ h => h, fun id x _ ⟨e, h1, h2⟩ => ⟨e, live id e h1 (by cases e <;> simp_all [Ent.grows, Ent.live]), h2⟩, by simp, fun _ _ h => h, fun _ _ _ h => .inl h, rfl, rfl, rfl, Nat.le_refl _, fun _ _ _ _ => rfl, fun _ _ _ => rfl, fun _ _ => rfl,
      fun b o _ ⟨i, e, h1, h2, h3, h4⟩ => ⟨i, e, live i e h1 h2, h2, h3, h4⟩, fun b _ ⟨i, e, h1, h2, h3⟩ => ⟨i, e, live i e h1 h2, h2, h3⟩⟩
  refine ⟨g, fun id h => by have := c.dom id h; simp; omega, fun id h => ?_, c.blt, fun i j b e e' hi l1 hj l2 => c.inj i j b e e' (live i e hi l1) l1 (live j e' hj l2) l2,
    fun id cs f h => c.blk id cs f (live id _ h rfl), fun id e h he => c.grow id e (live id _ h (by cases e <;> simp_all [Ent.grows, Ent.live])) he, fun b o h => ⟨(c.imm b o h).1, fun hm => (c.imm b o h).2 (g.wrt b o (c.imm b o h).1 hm)⟩, c.glob⟩
  rcases hget id _ h with h | ⟨h, _⟩
  · exact c.res id h
  · exact Classical.byContradiction fun hn => by have := c.dom id hn; omega

/-- What a step of an operation at one state says of it at every state that looks the same to it. -/
def DoesAt {P : Program} (G : Env P) (ops : Array Oper) (o : Oper) (e : DEff) (s : St) : Prop :=
  e.dst = o.dst ∧ (∀ p ∈ e.upd, p.1 ∈ e.reads) ∧
  ∀ s', Agree G ops o e.reads s s' → ∀ (ρ : Rho) (I : Imm) (w : World) (a : Act) (next : Act → World → Prop) (Q : Exit → Act → World → Prop), Conc G.g ρ I s'.H w → RelT ρ I w s'.t a →
    Leads G ρ I s'.H w (fun s2 => s2 = applyE e s') next → if Region.wanted o (yielded ops a.tmps) then o.wp P a w next Q else next (a.put o.dst undef) w

theorem dstep_sound {R : ROps G} {T : Ctr G} {ops : Array Oper} {nid : Nat} {o : Oper} {s : St} {K : DEff → Prop} (h : dstep G R T.C nid o s K) :
    ∃ e, K e ∧ e.dst = o.dst ∧ (∀ p ∈ e.upd, p.1 ∈ e.reads) ∧
      ∀ s', Agree G ops o e.reads s s' → ∀ (ρ : Rho) (I : Imm) (w : World) (a : Act) (next : Act → World → Prop) (Q : Exit → Act → World → Prop), Conc G.g ρ I s'.H w → RelT ρ I w s'.t a →
        Leads G ρ I s'.H w (fun s2 => s2 = applyE e s') next → o.wp P a w next Q := by
  unfold dstep at h
  split at h
  · rename_i E hE
    obtain ⟨v, u, hh, hk⟩ := Eff.go_has h
    rw [fA_eq, fU_eq, fN_eq] at hk
    refine ⟨_, hk, rfl, fun p hp => List.mem_append_right _ (List.mem_map.2 ⟨p, hp, rfl⟩), ?_⟩
    intro s' ag ρ I w a next Q hC hR hn
    have hE' : eff G R T.C o.op (evA G s'.t) s'.H nid = some E := by
      rw [eff_congr (fun x hx => ag.ev hx) (fun id hid => ag.read id (List.mem_append_left _ hid))]
      exact hE
    refine eff_sound R T hC hR hE' hh ?_
    intro ρ' I' x w' g c m r
    exact hn ρ' I' (applyE ⟨o.dst, v, u, readsE (evA G s.t) o.op nid (slots G o.op) ++ u.map (·.1)⟩ s') _ w' g c ((hR.mono m).put o.dst r) rfl
  · exact (stuckAt_no h).elim

theorem dgstep_sound {ops : Array Oper} {R : ROps G} {T : Ctr G} {nid : Nat} {o : Oper} {s : St} {K : List AV → DEff → Prop} (h : dgstep G R T.C ops nid o s K) : ∃ e, K s.t e ∧ DoesAt G ops o e s := by
  have skip : ∀ (hy : ∀ s' rs, Agree G ops o rs s s' → ∀ ρ I w a, RelT ρ I w s'.t a → Region.wanted o (yielded ops a.tmps) = false), K s.t ⟨o.dst, .tup [], [], []⟩ → ∃ e, K s.t e ∧ DoesAt G ops o e s := by
    intro hy hk
    refine ⟨_, hk, rfl, fun _ h => by simp at h, ?_⟩
    intro s' ag ρ I w a next Q hC hR hn
    rw [hy s' _ ag ρ I w a hR]
    simp only [Bool.false_eq_true, if_false]
    exact hn ρ I (applyE ⟨o.dst, .tup [], [], []⟩ s') _ w (Good.refl _ _ _ _) hC (hR.put _ rel_undef) rfl
  have take : dstep G R T.C nid o s (K s.t) → (∀ s' rs, Agree G ops o rs s s' → ∀ ρ I w a, RelT ρ I w s'.t a → Region.wanted o (yielded ops a.tmps) = true) → ∃ e, K s.t e ∧ DoesAt G ops o e s := by
    intro hd hy
    obtain ⟨e, h1, h2, h3, h4⟩ := dstep_sound (ops := ops) hd
    refine ⟨e, h1, h2, h3, ?_⟩
    intro s' ag ρ I w a next Q hC hR hn
    rw [hy s' _ ag ρ I w a hR]
    simp only [if_true]
    exact h4 s' ag ρ I w a next Q hC hR hn
  unfold dgstep at h
  split at h
  · rename_i hg
    exact take h fun s' rs ag ρ I w a hR => by unfold Region.wanted; rw [hg]
  · rename_i j want hg
    split at h
    · rename_i hd
      refine skip (fun s' rs ag ρ I w a hR => ?_) h
      unfold Region.wanted
      rw [hg]
      have : yielded ops a.tmps j = none := by unfold yielded; rw [hd]; rfl
      simp [this]
    · rename_i d hd
      have hlook : d ∈ o.looksAt ops := by
        unfold Oper.looksAt
        rw [List.mem_append]
        right
        rw [hg]
        simp [hd]
      split at h
      · rename_i b hb
        rw [tget_eq] at hb
        have h := ifW_iff.1 h
        by_cases e : b = want
        · have h1 := h.1 e
          rw [setB_eq (by rw [hb, e])] at h1
          refine take h1 fun s' rs ag ρ I w a hR => ?_
          unfold Region.wanted
          rw [hg]
          simp only
          rw [yielded_of hR hd ((ag.look d hlook).trans hb), e]
          simp
        · have e' : b = !want := by cases b <;> cases want <;> simp_all
          have h1 := h.2 e'
          rw [setB_eq (by rw [hb, e'])] at h1
          refine skip (fun s' rs ag ρ I w a hR => ?_) h1
          unfold Region.wanted
          rw [hg]
          simp only
          rw [yielded_of hR hd ((ag.look d hlook).trans hb)]
          simp [e]
      · rename_i l hl
        rw [tget_eq] at hl
        refine skip (fun s' rs ag ρ I w a hR => ?_) h
        unfold Region.wanted
        rw [hg]
        simp only
        rw [yielded_tup hR hd ((ag.look d hlook).trans hl)]
        simp
      · exact (stuckAt_no h).elim

end
def noEff : DEff := ⟨none, .any, [], []⟩

def runI (es : List DEff) (l : List Nat) (s : St) : St := l.foldl (fun s i => applyE (es.getD i noEff) s) s

theorem runI_cons (es : List DEff) (i : Nat) (l : List Nat) (s : St) : runI es (i :: l) s = runI es l (applyE (es.getD i noEff) s) := rfl
theorem runI_append (es : List DEff) (l l' : List Nat) (s : St) : runI es (l ++ l') s = runI es l' (runI es l s) := by simp [runI]

theorem applyE_len (e : DEff) (s : St) : (applyE e s).t.length = s.t.length ∧ (applyE e s).H.length = s.H.length := by
  simp only [applyE, updH_len, and_true]
  cases e.dst <;> simp [putA]

theorem putA_getD (t : List AV) (d : Option Tmp) (v : AV) (x : Nat) : (putA t d v).getD x .any = if d = some x ∧ x < t.length then v else t.getD x .any := by
  cases d with
  | none => simp [putA]
  | some d =>
    simp only [putA, List.getD_eq_getElem?_getD, List.getElem?_set, Option.some.injEq]
    by_cases h : d = x
    · subst h
      by_cases h2 : d < t.length
      · simp [h2]
      · simp [h2]
    · simp [h]

/-- What stands in a temporary behind a run hangs on those alone that write it. -/
theorem runI_tmp (es : List DEff) (x : Nat) : ∀ (l : List Nat) (s s' : St), s.t.getD x .any = s'.t.getD x .any → s.t.length = s'.t.length →
    (runI es l s).t.getD x .any = (runI es (l.filter fun i => (es.getD i noEff).dst = some x) s').t.getD x .any
  | [], s, s', h, _ => h
  | i :: l, s, s', h, hl => by
    rw [runI_cons]
    by_cases hd : (es.getD i noEff).dst = some x
    · rw [List.filter_cons_of_pos (by simpa using hd), runI_cons]
      refine runI_tmp es x l _ _ ?_ (by rw [(applyE_len _ _).1, (applyE_len _ _).1, hl])
      simp only [applyE, putA_getD, hd, hl, h]
    · rw [List.filter_cons_of_neg (by simpa using hd)]
      refine runI_tmp es x l _ _ ?_ (by rw [(applyE_len _ _).1, hl])
      rw [← h]
      simp only [applyE, putA_getD, hd, false_and, if_false]

def wrH (e : DEff) (id : Nat) : Bool := e.upd.any fun p => p.1 == id

theorem updH_get : ∀ (u : List (Nat × Ent)) (H : Heap) (id : Nat), (u.any fun p => p.1 == id) = false → (updH H u)[id]? = H[id]?
  | [], H, id, _ => rfl
  | (i, x) :: r, H, id, h => by
    simp only [List.any_cons, Bool.or_eq_false_iff, beq_eq_false_iff_ne, ne_eq] at h
    rw [updH, updH_get r _ id h.2, List.getElem?_set_ne h.1]
theorem updH_same : ∀ (u : List (Nat × Ent)) (H H' : Heap) (id : Nat), (u.any fun p => p.1 == id) = true → H.length = H'.length → (updH H u)[id]? = (updH H' u)[id]?
  | [], H, H', id, h, _ => by simp at h
  | (i, x) :: r, H, H', id, h, hl => by
    rw [updH, updH]
    cases hr : r.any fun p => p.1 == id
    · have hi : i = id := by
        have : (i == id) = true := by simpa [hr] using h
        simpa using this
      subst hi
      rw [updH_get r _ i hr, updH_get r _ i hr]
      simp only [List.getElem?_set, if_true, hl]
    · exact updH_same r _ _ id hr (by simp [hl])
theorem updH_set : ∀ (u : List (Nat × Ent)) (H : Heap) (i : Nat) (x : Ent), (u.any fun p => p.1 == i) = false → updH (H.set i x) u = (updH H u).set i x
  | [], _, _, _, _ => rfl
  | (j, y) :: r, H, i, x, h => by
    simp only [List.any_cons, Bool.or_eq_false_iff, beq_eq_false_iff_ne, ne_eq] at h
    rw [updH, updH, List.set_comm _ _ (fun e => h.1 e.symm), updH_set r _ i x h.2]
theorem updH_comm : ∀ (u v : List (Nat × Ent)) (H : Heap), (∀ p ∈ u, (v.any fun q => q.1 == p.1) = false) → updH (updH H v) u = updH (updH H u) v
  | [], _, _, _ => rfl
  | (i, x) :: r, v, H, h => by
    rw [updH, updH, ← updH_set v H i x (h (i, x) (by simp)), updH_comm r v _ fun p hp => h p (by simp [hp])]

theorem applyE_H (e : DEff) (s : St) (id : Nat) (h : wrH e id = false) : (applyE e s).H[id]? = s.H[id]? := updH_get _ _ _ h

theorem applyE_H_same (e : DEff) (s s' : St) (id : Nat) (h : wrH e id = true) (hl : s.H.length = s'.H.length) : (applyE e s).H[id]? = (applyE e s').H[id]? := updH_same _ _ _ _ h hl

theorem runI_H (es : List DEff) (id : Nat) : ∀ (l : List Nat) (s s' : St), s.H[id]? = s'.H[id]? → s.H.length = s'.H.length →
    (runI es l s).H[id]? = (runI es (l.filter fun i => wrH (es.getD i noEff) id) s').H[id]?
  | [], s, s', h, _ => h
  | i :: l, s, s', h, hl => by
    rw [runI_cons]
    cases hd : wrH (es.getD i noEff) id
    · rw [List.filter_cons_of_neg (by rw [hd]; simp)]
      exact runI_H es id l _ _ (by rw [← h]; exact applyE_H _ _ _ hd) (by rw [(applyE_len _ _).2, hl])
    · rw [List.filter_cons_of_pos (p := fun i => wrH (es.getD i noEff) id) hd, runI_cons]
      exact runI_H es id l _ _ (applyE_H_same _ _ _ _ hd hl) (by rw [(applyE_len _ _).2, (applyE_len _ _).2, hl])

/-- Two that touch nothing in common. -/
theorem applyE_comm (e f : DEff) (s : St) (h1 : ∀ d, e.dst = some d → f.dst ≠ some d) (h2 : ∀ p ∈ e.upd, wrH f p.1 = false) : applyE e (applyE f s) = applyE f (applyE e s) := by
  have ht : putA (putA s.t f.dst f.val) e.dst e.val = putA (putA s.t e.dst e.val) f.dst f.val := by
    cases he : e.dst with
    | none => rfl
    | some d =>
      cases hf : f.dst with
      | none => rfl
      | some d' =>
        have : d ≠ d' := fun h => h1 d he (by rw [hf, h])
        simp only [putA]
        rw [List.set_comm _ _ this.symm]
  simp only [applyE, ht, St.mk.injEq, true_and]
  exact updH_comm _ _ _ h2

theorem runI_comm (es : List DEff) (e : DEff) : ∀ (l : List Nat) (s : St), (∀ j ∈ l, (∀ d, e.dst = some d → (es.getD j noEff).dst ≠ some d) ∧ ∀ p ∈ e.upd, wrH (es.getD j noEff) p.1 = false) →
    runI es l (applyE e s) = applyE e (runI es l s)
  | [], _, _ => rfl
  | j :: l, s, h => by
    obtain ⟨h1, h2⟩ := h j (by simp)
    rw [runI_cons, runI_cons, ← applyE_comm e _ s h1 h2]
    exact runI_comm es e l _ fun k hk => h k (by simp [hk])

theorem filter_more (p p' : Nat → Bool) (i : Nat) (hp : p i = false) (hp' : ∀ j, p' j = (p j || j == i)) : ∀ (n : Nat), i < n →
    ∃ l1 l2, (List.range n).filter p = l1 ++ l2 ∧ (List.range n).filter p' = l1 ++ i :: l2 ∧ ∀ j ∈ l2, i < j ∧ p j = true ∧ j < n
  | 0, h => by omega
  | n + 1, h => by
    have hsame : ∀ m, m ≤ i → (List.range m).filter p' = (List.range m).filter p := by
      intro m hm
      refine List.filter_congr fun j hj => ?_
      have : j < m := by simpa using hj
      rw [hp' j]
      have : (j == i) = false := by simp; omega
      simp [this]
    rw [List.range_succ, List.filter_append, List.filter_append]
    by_cases e : i = n
    · subst e
      refine ⟨(List.range i).filter p, [], by simp [hp], by simp [hsame i (Nat.le_refl _), hp'], by simp⟩
    · obtain ⟨l1, l2, h1, h2, h3⟩ := filter_more p p' i hp hp' n (by omega)
      have hn : p' n = p n := by rw [hp' n]; have : (n == i) = false := by simp; omega
                                 simp [this]
      cases hpn : p n
      · refine ⟨l1, l2, by simp [h1, hpn], by simp [h2, hn, hpn], fun j hj => ⟨(h3 j hj).1, (h3 j hj).2.1, by have := (h3 j hj).2.2; omega⟩⟩
      · refine ⟨l1, l2 ++ [n], by simp [h1, hpn], by simp [h2, hn, hpn], fun j hj => ?_⟩
        rcases List.mem_append.1 hj with hj | hj
        · exact ⟨(h3 j hj).1, (h3 j hj).2.1, by have := (h3 j hj).2.2; omega⟩
        · have : j = n := by simpa using hj
          subst this
          exact ⟨by omega, hpn, by omega⟩

/-- Which operations must have been before one: a number's bits. -/
def msk (acc : List Nat) (o : Oper) : Nat := o.after.toList.foldl (fun m e => if Region.binds .any e then (m ||| 2 ^ e.on) ||| acc.getD e.on 0 else m) 0
def masks : List Oper → List Nat → List Nat
  | [], acc => acc
  | o :: r, acc => masks r (acc ++ [msk acc o])

theorem msk_rel (R : Nat → Nat → Prop) (trans : ∀ j m i, R j m → R m i → R j i) {acc : List Nat} {o : Oper} {k : Nat} (hacc : ∀ j i, (acc.getD j 0).testBit i = true → R j i)
    (ho : ∀ e ∈ o.after, Region.binds .any e = true → R k e.on) {i : Nat} (h : (msk acc o).testBit i = true) : R k i := by
  unfold msk at h
  have key : ∀ (l : List Edge) (m : Nat), (∀ e ∈ l, e ∈ o.after) → (m.testBit i = true → R k i) →
      (l.foldl (fun m e => if Region.binds .any e then (m ||| 2 ^ e.on) ||| acc.getD e.on 0 else m) m).testBit i = true → R k i := by
    intro l
    induction l with
    | nil => intro m _ hm h; exact hm h
    | cons e l ih =>
      intro m hl hm h
      rw [List.foldl_cons] at h
      refine ih _ (fun x hx => hl x (by simp [hx])) ?_ h
      intro hb
      by_cases hbd : Region.binds .any e = true
      · rw [if_pos hbd, Nat.testBit_or, Nat.testBit_or, Bool.or_eq_true, Bool.or_eq_true] at hb
        rcases hb with (hb | hb) | hb
        · exact hm hb
        · rw [Nat.testBit_two_pow] at hb
          have : e.on = i := by simpa using hb
          rw [← this]
          exact ho e (hl e (by simp)) hbd
        · exact trans _ _ _ (ho e (hl e (by simp)) hbd) (hacc e.on i hb)
      · rw [if_neg hbd] at hb
        exact hm hb
  exact key _ 0 (fun e he => by simpa using he) (by simp) h

theorem masks_rel (R : Nat → Nat → Prop) (trans : ∀ j m i, R j m → R m i → R j i) : ∀ (l : List Oper) (acc : List Nat), (∀ j i, (acc.getD j 0).testBit i = true → R j i) →
    (∀ k o, l[k]? = some o → ∀ e ∈ o.after, Region.binds .any e = true → R (acc.length + k) e.on) → ∀ j i, ((masks l acc).getD j 0).testBit i = true → R j i
  | [], acc, h, _ => h
  | o :: r, acc, h, hd => by
    refine masks_rel R trans r (acc ++ [msk acc o]) ?_ ?_
    · intro j i hb
      rw [List.getD_eq_getElem?_getD] at hb
      rcases Nat.lt_or_ge j acc.length with hlt | hge
      · rw [List.getElem?_append_left hlt, ← List.getD_eq_getElem?_getD] at hb
        exact h j i hb
      · rw [List.getElem?_append_right hge] at hb
        by_cases e : j = acc.length
        · subst e
          simp at hb
          exact msk_rel R trans h (hd 0 o rfl) hb
        · have : 1 ≤ j - acc.length := by omega
          rw [List.getElem?_eq_none (by simpa using this)] at hb
          simp at hb
    · intro k o' hk
      rw [List.length_append, List.length_singleton, show acc.length + 1 + k = acc.length + (k + 1) by omega]
      exact hd (k + 1) o' (by simpa using hk)

/-- May two effects be taken in either order, as far as entries go? -/
def freeH (e f : DEff) : Bool := (e.upd.all fun p => !f.reads.contains p.1) && (f.upd.all fun p => !e.reads.contains p.1)

/-- Each two operations are in an order, or touch nothing in common; and orders go by the text. -/
def indepB (ops : Array Oper) (tr : List DEff) : Bool :=
  let ms := masks ops.toList []
  (List.range ops.size).all fun j =>
    ((ops.getD j default).after.all fun e => !Region.binds .any e || decide (e.on < j)) &&
    (List.range j).all fun i => (ms.getD j 0).testBit i || ((ops.getD i default).apart ops (ops.getD j default) && freeH (tr.getD i noEff) (tr.getD j noEff))

section
variable {P : Program} {G : Env P}

theorem dops_extract {R : ROps G} {T : Ctr G} {ops : Array Oper} : ∀ (l : List Oper) {nid : Nat} {s : St} {tr : List DEff} {K : St → List DEff → Prop}, dops G R T.C ops l nid s tr K →
    ∃ es : List DEff, es.length = l.length ∧ K (runI es (List.range es.length) s) (tr ++ es) ∧
      ∀ (k : Nat) (o : Oper), l[k]? = some o → DoesAt G ops o (es.getD k noEff) (runI es (List.range k) s)
  | [], nid, s, tr, K, h => ⟨[], rfl, by simpa [runI, dops] using h, fun k o h => by simp at h⟩
  | o :: rest, nid, s, tr, K, h => by
    obtain ⟨e, h1, h2⟩ := dgstep_sound h
    rw [fPut_eq, fUpd_eq] at h1
    obtain ⟨es, g1, g2, g3⟩ := dops_extract rest (s := applyE e s) h1
    have shift : ∀ k, runI (e :: es) (List.range (k + 1)) s = runI es (List.range k) (applyE e s) := by
      intro k
      rw [List.range_succ_eq_map, runI_cons]
      simp only [runI, List.foldl_map, List.getD_cons_zero, List.getD_cons_succ]
    refine ⟨e :: es, by simp [g1], ?_, ?_⟩
    · rw [List.length_cons, shift]
      simpa using g2
    · intro k o' hk
      cases k with
      | zero =>
        simp at hk
        subst hk
        simpa [runI] using h2
      | succ k =>
        rw [shift]
        simpa using g3 k o' (by simpa using hk)

structure Indep (ops : Array Oper) (es : List DEff) : Prop where
  fwd : ∀ j o, ops[j]? = some o → ∀ e ∈ o.after, Region.binds .any e = true → e.on < j
  pair : ∀ i j oi oj, i < j → ops[i]? = some oi → ops[j]? = some oj → ((masks ops.toList []).getD j 0).testBit i = true ∨ (oi.apart ops oj = true ∧ freeH (es.getD i noEff) (es.getD j noEff) = true)

theorem indep_of {ops : Array Oper} {es : List DEff} (h : indepB ops es = true) : Indep ops es := by
  unfold indepB at h
  simp only [List.all_eq_true, List.mem_range, Bool.and_eq_true, Bool.or_eq_true] at h
  refine ⟨?_, ?_⟩
  · intro j o ho e he hb
    have hlt : j < ops.size := (Array.getElem?_eq_some_iff.1 ho).1
    have h1 := (h j hlt).1
    have hg : ops.getD j default = o := by simp [ho]
    rw [hg, Array.all_eq_true_iff_forall_mem] at h1
    have := h1 e he
    simpa [hb] using this
  · intro i j oi oj hij hi hj
    have hlt : j < ops.size := (Array.getElem?_eq_some_iff.1 hj).1
    have h1 := (h j hlt).2 i hij
    have hgi : ops.getD i default = oi := by simp [hi]
    have hgj : ops.getD j default = oj := by simp [hj]
    rw [hgi, hgj] at h1
    exact h1

theorem wpAny_done {ops : Array Oper} {Q : Exit → Act → World → Prop} {listed : Array Bool} (hall : ∀ i, i < ops.size → listed.getD i false = true) (hsz : listed.size = ops.size) {a : Act} {w : World} (h : Q .normal a w) : ∀ fuel, wpAny P .any ops Q fuel listed a w := by
  have hr : Region.ready .any ops listed = [] := by
    refine List.eq_nil_iff_forall_not_mem.2 fun j hj => ?_
    rw [mem_ready] at hj
    obtain ⟨h1, o, ho, _⟩ := hj
    have hlt : j < ops.size := (Array.getElem?_eq_some_iff.1 ho).1
    have hlt' : j < listed.size := by omega
    have := hall j hlt
    simp [hlt'] at h1 this
    rw [h1] at this
    simp at this
  intro fuel
  cases fuel with
  | zero => exact ⟨hr, h⟩
  | succ n => exact ⟨fun _ => h, fun i hi => by rw [hr] at hi; simp at hi⟩

/-- All orders of a statement's operations; the last one may be anything, if all others are ahead of it in each order. -/
theorem wpAny_perm {ops : Array Oper} {es : List DEff} {s0 : St} {Q : Exit → Act → World → Prop} {n0 : Nat} {KS : St → Prop} {ρb : Rho} {Ib : Imm} {Hb : Heap} {wb : World} (hQ : Leads G ρb Ib Hb wb KS (Q .normal)) (hI : Indep ops es)
    (hd : ∀ (k : Nat) (o : Oper), k < n0 → ops[k]? = some o → DoesAt G ops o (es.getD k noEff) (runI es (List.range k) s0))
    (hKS : ops.size ≤ n0 → KS (runI es (List.range ops.size) s0))
    (hls : ∀ (i : Nat) (o : Oper), n0 ≤ i → ops[i]? = some o → es.getD i noEff = noEff ∧ (∀ k, k < ops.size → k ≠ i → ((masks ops.toList []).getD i 0).testBit k = true) ∧
      ∀ (ρ : Rho) (I : Imm) (w : World) (a : Act) (next : Act → World → Prop), Conc G.g ρ I (runI es (List.range ops.size) s0).H w → RelT ρ I w (runI es (List.range ops.size) s0).t a →
        Good ρb Ib Hb wb ρ I (runI es (List.range ops.size) s0).H w → Leads G ρb Ib Hb wb KS next → wpOp P ops Q i next a w) :
    ∀ (fuel : Nat) (listed : Array Bool), listed.size = ops.size → (∀ i, n0 ≤ i → i < ops.size → listed.getD i false = false) → (∀ j o, ops[j]? = some o → listed.getD j false = true → ∀ e ∈ o.after, Region.binds .any e = true → listed.getD e.on false = true) →
      ((List.range ops.size).filter fun i => !listed.getD i false).length ≤ fuel → ∀ (ρ : Rho) (I : Imm) (w : World) (a : Act),
      Conc G.g ρ I (runI es ((List.range ops.size).filter fun i => listed.getD i false) s0).H w → RelT ρ I w (runI es ((List.range ops.size).filter fun i => listed.getD i false) s0).t a →
      Good ρb Ib Hb wb ρ I (runI es ((List.range ops.size).filter fun i => listed.getD i false) s0).H w →
      wpAny P .any ops Q fuel listed a w := by
  have alldone : ∀ (listed : Array Bool), listed.size = ops.size → (∀ i, i < ops.size → listed.getD i false = true) → (List.range ops.size).filter (fun i => listed.getD i false) = List.range ops.size := by
    intro listed _ h
    rw [List.filter_eq_self]
    intro i hi
    exact h i (by simpa using hi)
  have stuck : ∀ (listed : Array Bool), listed.size = ops.size → Region.ready .any ops listed = [] → ∀ n i, i < n → i < ops.size → listed.getD i false = true := by
    intro listed hsz hr n
    induction n with
    | zero => intro i hi; omega
    | succ n ih =>
      intro i hi hlt
      refine Classical.byContradiction fun hn => ?_
      have hn' : listed.getD i false = false := by simpa using hn
      have hmem : i ∈ Region.ready .any ops listed := by
        rw [mem_ready]
        have hlt' : i < listed.size := by omega
        refine ⟨by simpa [hlt'] using hn', ops[i], by simp [hlt], fun e he hb => ?_⟩
        have := hI.fwd i ops[i] (by simp [hlt]) e he hb
        exact ih e.on (by omega) (by omega)
      rw [hr] at hmem
      simp at hmem
  have fin : ∀ (listed : Array Bool), listed.size = ops.size → (∀ i, n0 ≤ i → i < ops.size → listed.getD i false = false) → Region.ready .any ops listed = [] → ∀ (ρ : Rho) (I : Imm) (w : World) (a : Act),
      Conc G.g ρ I (runI es ((List.range ops.size).filter fun i => listed.getD i false) s0).H w → RelT ρ I w (runI es ((List.range ops.size).filter fun i => listed.getD i false) s0).t a →
      Good ρb Ib Hb wb ρ I (runI es ((List.range ops.size).filter fun i => listed.getD i false) s0).H w → Q .normal a w := by
    intro listed hsz hnl hr ρ I w a hC hR hn
    have hge : ops.size ≤ n0 := by
      refine Classical.byContradiction fun hlt => ?_
      have h1 := stuck listed hsz hr (n0 + 1) n0 (by omega) (by omega)
      rw [hnl n0 (Nat.le_refl _) (by omega)] at h1
      simp at h1
    have := alldone listed hsz (fun i hi => stuck listed hsz hr (i + 1) i (by omega) hi)
    rw [this] at hC hR hn
    exact hQ ρ I (runI es (List.range ops.size) s0) a w hn hC hR (hKS hge)
  intro fuel
  induction fuel with
  | zero =>
    intro listed hsz hnl _ hcount ρ I w a hC hR hn
    have hall : ∀ i, i < ops.size → listed.getD i false = true := by
      intro i hi
      refine Classical.byContradiction fun hf => ?_
      have hm : i ∈ (List.range ops.size).filter fun i => !listed.getD i false := by
        rw [List.mem_filter]
        exact ⟨by simpa using hi, by simpa using hf⟩
      have := List.length_pos_of_mem hm
      omega
    have hr : Region.ready .any ops listed = [] := by
      refine List.eq_nil_iff_forall_not_mem.2 fun j hj => ?_
      rw [mem_ready] at hj
      obtain ⟨h1, o, ho, _⟩ := hj
      have hlt : j < ops.size := (Array.getElem?_eq_some_iff.1 ho).1
      have hlt' : j < listed.size := by omega
      have := hall j hlt
      simp [hlt'] at h1 this
      rw [h1] at this
      simp at this
    exact ⟨hr, fin listed hsz hnl hr ρ I w a hC hR hn⟩
  | succ fuel ih =>
    intro listed hsz hnl hdc hcount ρ I w a hC hR hn
    refine ⟨fun hr => fin listed hsz hnl hr ρ I w a hC hR hn, ?_⟩
    intro i hi
    rw [mem_ready] at hi
    obtain ⟨h1, oi, hoi, hrd⟩ := hi
    have hlt : i < ops.size := (Array.getElem?_eq_some_iff.1 hoi).1
    have hlt' : i < listed.size := by omega
    have hni : listed.getD i false = false := by simpa [hlt'] using h1
    -- what was before i is listed
    have hmlt : ∀ j k, ((masks ops.toList []).getD j 0).testBit k = true → k < j :=
      masks_rel (fun j i => i < j) (fun _ _ _ h1 h2 => Nat.lt_trans h2 h1) ops.toList [] (by simp) (fun k o hk e he hb => by
        simp only [List.length_nil, Nat.zero_add]
        exact hI.fwd k o (by simpa using hk) e he hb)
    have hdown : ∀ j k, ((masks ops.toList []).getD j 0).testBit k = true → (listed.getD j false = true ∨ j = i) → (listed.getD k false = true ∨ k = i) :=
      masks_rel (fun j k => (listed.getD j false = true ∨ j = i) → (listed.getD k false = true ∨ k = i)) (fun _ _ _ h1 h2 h => h2 (h1 h)) ops.toList [] (by simp) (fun k o hk e he hb hD => by
        simp only [List.length_nil, Nat.zero_add] at hD
        have hk' : ops[k]? = some o := by simpa using hk
        rcases hD with hD | hD
        · exact .inl (hdc k o hk' hD e he hb)
        · subst hD
          rw [hoi] at hk'
          simp at hk'
          subst hk'
          exact .inl (hrd e he hb))
    have hbef : ∀ k, ((masks ops.toList []).getD i 0).testBit k = true → listed.getD k false = true := fun k hk => by
      rcases hdown i k hk (.inr rfl) with h | h
      · exact h
      · have := hmlt i k hk; omega
    have hdc' : ∀ j k, ((masks ops.toList []).getD j 0).testBit k = true → listed.getD j false = true → listed.getD k false = true := 
      masks_rel (fun j k => listed.getD j false = true → listed.getD k false = true) (fun _ _ _ h1 h2 h => h2 (h1 h)) ops.toList [] (by simp) (fun k o hk e he hb hD => by
        simp only [List.length_nil, Nat.zero_add] at hD
        exact hdc k o (by simpa using hk) hD e he hb)
    have hset : ∀ j, (listed.setIfInBounds i true).getD j false = (listed.getD j false || j == i) := by
      intro j
      by_cases e : i = j
      · subst e; simp [hlt']
      · rw [getD_set_ne false e]
        have : (j == i) = false := by simp; omega
        simp [this]
    rcases Nat.lt_or_ge i n0 with hin | hin
    rotate_left
    · obtain ⟨hne, hmk, hwp⟩ := hls i oi hin hoi
      have hother : ∀ k, k < ops.size → k ≠ i → listed.getD k false = true := fun k hk hki => hbef k (hmk k hk hki)
      have hsame : runI es ((List.range ops.size).filter fun i => listed.getD i false) s0 = runI es (List.range ops.size) s0 := by
        have gen : ∀ (n : Nat) (s : St), n ≤ ops.size → runI es ((List.range n).filter fun i => listed.getD i false) s = runI es (List.range n) s := by
          intro n
          induction n with
          | zero => intro s _; rfl
          | succ n ihn =>
            intro s hle
            rw [List.range_succ, List.filter_append, runI_append, runI_append, ihn s (by omega)]
            by_cases e : n = i
            · subst e
              simp only [List.filter_cons, hni, List.filter_nil, runI, List.foldl_nil, List.foldl_cons, hne]
              rfl
            · simp only [List.filter_cons, hother n (by omega) e, List.filter_nil, if_true]
        exact gen ops.size s0 (Nat.le_refl _)
      rw [hsame] at hC hR hn
      refine hwp ρ I w a _ hC hR hn fun ρ' I' s' a' w' hg hC' hR' hs' => ?_
      refine wpAny_done (fun k hk => ?_) (by simpa using hsz) (hQ ρ' I' s' a' w' hg hC' hR' hs') fuel
      rw [hset]
      by_cases e : k = i
      · subst e; simp
      · rw [hother k hk e]; rfl
    obtain ⟨hdst, hupd, hdo⟩ := hd i oi hin hoi
    -- an operation that is listed and behind i in the text touches nothing of i's, and so does one that is ahead of it and not listed
    have hfree : ∀ j oj, ops[j]? = some oj → j ≠ i → (listed.getD j false = true ↔ j < i) ∨
        ((∀ d, oj.dst = some d → d ∉ oi.looksAt ops) ∧ (∀ d, oi.dst = some d → oj.dst ≠ some d) ∧ (∀ p ∈ (es.getD i noEff).upd, wrH (es.getD j noEff) p.1 = false) ∧
          ∀ q ∈ (es.getD i noEff).reads, wrH (es.getD j noEff) q = false) := by
      intro j oj hoj hji
      have wr : ∀ (e f : DEff), (∀ p ∈ e.upd, p.1 ∈ e.reads) → (f.upd.all fun p => !e.reads.contains p.1) = true → (∀ p ∈ e.upd, wrH f p.1 = false) ∧ ∀ q ∈ e.reads, wrH f q = false := by
        intro e f he hf
        have h2 : ∀ q ∈ e.reads, wrH f q = false := by
          intro q hq
          unfold wrH
          rw [List.any_eq_false]
          intro p hp
          rw [List.all_eq_true] at hf
          have := hf p hp
          simp only [Bool.not_eq_true', List.contains_eq_mem, decide_eq_false_iff_not] at this
          simp only [beq_iff_eq]
          rintro rfl
          exact this hq
        exact ⟨fun p hp => h2 p.1 (he p hp), h2⟩
      rcases Nat.lt_or_ge j i with hlt2 | hge2
      · rcases hI.pair j i oj oi hlt2 hoj hoi with hb | ⟨hap, hfr⟩
        · exact .inl ⟨fun _ => hlt2, fun _ => hbef j hb⟩
        · obtain ⟨a1, a2, a3⟩ := Oper.apart_spec hap
          simp only [freeH, Bool.and_eq_true] at hfr
          obtain ⟨w1, w2⟩ := wr (es.getD i noEff) (es.getD j noEff) hupd hfr.1
          exact .inr ⟨a1, fun d hd h => a2 d h hd, w1, w2⟩
      · have hgt : i < j := by omega
        rcases hI.pair i j oi oj hgt hoi hoj with hb | ⟨hap, hfr⟩
        · refine .inl ⟨fun hl => ?_, fun h => by omega⟩
          have := hdc' j i hb hl
          rw [hni] at this
          simp at this
        · obtain ⟨a1, a2, a3⟩ := Oper.apart_spec hap
          simp only [freeH, Bool.and_eq_true] at hfr
          obtain ⟨w1, w2⟩ := wr (es.getD i noEff) (es.getD j noEff) hupd hfr.2
          exact .inr ⟨a3, fun d hd => a2 d hd, w1, w2⟩
    have hdstj : ∀ j oj t, ops[j]? = some oj → (es.getD j noEff).dst = some t → oj.dst = some t := fun j oj t hj ht => by
      rcases Nat.lt_or_ge j n0 with h | h
      · rw [← (hd j oj h hj).1]; exact ht
      · rw [(hls j oj h hj).1] at ht; simp [noEff] at ht
    have hrange : List.range i = (List.range ops.size).filter fun j => decide (j < i) := by
      have : ∀ n, i ≤ n → List.range i = (List.range n).filter fun j => decide (j < i) := by
        intro n
        induction n with
        | zero => intro h; have : i = 0 := by omega
                  subst this; rfl
        | succ n ihn =>
          intro h
          rw [List.range_succ, List.filter_append]
          by_cases e : i = n + 1
          · subst e
            rw [List.filter_eq_self.2 (fun j hj => by simp at hj; simp; omega)]
            simp [List.range_succ]
          · rw [← ihn (by omega)]
            have : ¬ n < i := by omega
            simp [this]
      exact this _ (by omega)
    -- the state as it stands looks to i as the text's own
    have agree : Agree G ops oi (es.getD i noEff).reads (runI es (List.range i) s0) (runI es ((List.range ops.size).filter fun i => listed.getD i false) s0) := by
      refine ⟨fun t ht => ?_, fun q hq => ?_⟩
      · rw [runI_tmp es t _ s0 s0 rfl rfl, runI_tmp es t (List.range i) s0 s0 rfl rfl]
        rw [hrange, List.filter_filter, List.filter_filter]
        congr 3
        refine List.filter_congr fun j hj => ?_
        have hj' : j < ops.size := by simpa using hj
        obtain ⟨oj, hoj⟩ : ∃ oj, ops[j]? = some oj := ⟨ops[j], by simp [hj']⟩
        by_cases hjd : (es.getD j noEff).dst = some t
        · simp only [hjd, decide_true, Bool.true_and]
          by_cases hji : j = i
          · subst hji; simp [hni]
          · rcases hfree j oj hoj hji with h | ⟨h, _⟩
            · rw [Bool.eq_iff_iff]; simpa using h
            · exact absurd ht (h t (hdstj j oj t hoj hjd))
        · simp only [hjd, decide_false, Bool.false_and]
      · rw [runI_H es q _ s0 s0 rfl rfl, runI_H es q (List.range i) s0 s0 rfl rfl]
        rw [hrange, List.filter_filter, List.filter_filter]
        congr 3
        refine List.filter_congr fun j hj => ?_
        have hj' : j < ops.size := by simpa using hj
        obtain ⟨oj, hoj⟩ : ∃ oj, ops[j]? = some oj := ⟨ops[j], by simp [hj']⟩
        cases hjw : wrH (es.getD j noEff) q
        · simp
        · simp only [Bool.true_and]
          by_cases hji : j = i
          · subst hji; simp [hni]
          · rcases hfree j oj hoj hji with h | ⟨_, _, _, h⟩
            · rw [Bool.eq_iff_iff]; simpa using h
            · rw [h q hq] at hjw; simp at hjw
    obtain ⟨l1, l2, k1, k2, k3⟩ := filter_more (fun j => listed.getD j false) (fun j => (listed.setIfInBounds i true).getD j false) i hni hset ops.size hlt
    have hnew : runI es ((List.range ops.size).filter fun j => (listed.setIfInBounds i true).getD j false) s0 =
        applyE (es.getD i noEff) (runI es ((List.range ops.size).filter fun i => listed.getD i false) s0) := by
      rw [k2, k1, runI_append, runI_append, runI_cons]
      refine runI_comm es _ l2 _ fun j hj => ?_
      obtain ⟨q1, q2, q3⟩ := k3 j hj
      obtain ⟨oj, hoj⟩ : ∃ oj, ops[j]? = some oj := ⟨ops[j], by simp [q3]⟩
      rcases hfree j oj hoj (by omega) with h | ⟨_, h2, h3, _⟩
      · have := h.1 q2; omega
      · exact ⟨fun d hd' hjd => h2 d (by rw [← hdst]; exact hd') (hdstj j oj d hoj hjd), h3⟩
    have := hdo _ agree ρ I w a (wpAny P .any ops Q fuel (listed.setIfInBounds i true)) Q hC hR (by
      intro ρ' I' s' a' w' hg hC' hR' hs'
      subst hs'
      rw [← hnew] at hC' hR' hg
      refine ih (listed.setIfInBounds i true) (by simpa using hsz) (fun j hj hj' => by
        rw [hset, hnl j hj hj']
        have : (j == i) = false := by simp; omega
        rw [this]; rfl) ?_ ?_ ρ' I' w' a' hC' hR' (hn.trans hg)
      · intro j o ho hl e he hb
        rw [hset] at hl ⊢
        rw [Bool.or_eq_true] at hl ⊢
        left
        rcases hl with hl | hl
        · exact hdc j o ho hl e he hb
        · have : j = i := by simpa using hl
          subst this
          rw [hoi] at ho
          simp at ho
          subst ho
          exact hrd e he hb
      · have hcl : ((List.range ops.size).filter fun j => !(listed.setIfInBounds i true).getD j false).length + 1 ≤ ((List.range ops.size).filter fun j => !listed.getD j false).length := by
          obtain ⟨m1, m2, n1, n2, _⟩ := filter_more (fun j => !(listed.setIfInBounds i true).getD j false) (fun j => !listed.getD j false) i (by show (!(listed.setIfInBounds i true).getD i false) = false; rw [hset i, beq_self_eq_true, Bool.or_true]; rfl) (fun j => by
            show (!listed.getD j false) = (!(listed.setIfInBounds i true).getD j false || j == i)
            rw [hset j]
            by_cases e : j = i
            · subst e; rw [hni]; simp
            · have : (j == i) = false := by simp [e]
              rw [this, Bool.or_false, Bool.or_false]) ops.size hlt
          rw [n1, n2]
          simp
          omega
        omega)
    unfold wpOp
    rw [hoi]
    simp only
    split
    · rename_i hw; rw [if_pos hw] at this; exact .inl this
    · rename_i hw; rw [if_neg hw] at this; exact this

theorem getD_rep (m j : Nat) : (Array.replicate m false).getD j false = false := by
  simp only [Array.getD_eq_getD_getElem?, Array.getElem?_replicate]
  split <;> rfl

def countS {P : Program} (G : Env P) : List Oper → Nat
  | [] => 0
  | o :: r => slots G o.op + countS G r
/-- What is left behind a statement whose order is open. -/
def drawn (ops : Array Oper) (Q : Exit → St → Prop) (s : St) (tr : List DEff) : Prop := cnd (indepB ops tr) (Q .normal s)

/-- A statement whose order is open. -/
theorem Tri.draw {R : ROps G} {T : Ctr G} {id : Nat} {ops : Array Oper} {Q : Exit → St → Prop} {s : St}
    (h : dops G R T.C ops ops.toList s.H.length ⟨s.t, s.H ++ List.replicate (countS G ops.toList) .res⟩ [] (drawn ops Q)) : Tri G (.region id ops true) Q s := by
  intro ρ I a w hc hr
  obtain ⟨es, h1, h23, h4⟩ := dops_extract ops.toList h
  obtain ⟨h2, h3⟩ := cnd_iff.1 h23
  have hlen : es.length = ops.size := by simpa using h1
  rw [List.nil_append] at h2
  obtain ⟨g, cc⟩ := reserve_conc hc (countS G ops.toList)
  have gd : Good ρ I s.H w ρ I (s.H ++ List.replicate (countS G ops.toList) .res) { w with drawn := w.drawn + 1 } :=
    ⟨g.ext, g.kp, g.len, g.imm, g.imm', rfl, rfl, rfl, Nat.le_refl _, fun _ _ _ _ => rfl, fun _ _ _ => rfl, fun _ _ => rfl, g.wrt, g.own⟩
  have m : Mono ρ I w ρ I { w with drawn := w.drawn + 1 } := ⟨fun _ _ h => h, fun _ _ h => ⟨h, rfl⟩, fun _ h => ⟨h, rfl⟩⟩
  have cd : Conc G.g ρ I (s.H ++ List.replicate (countS G ops.toList) .res) { w with drawn := w.drawn + 1 } := by
    refine ⟨cc.dom, cc.res, cc.blt, cc.inj, fun id cs f h => ?_, fun id e h he => ?_, cc.imm, fun g c h => ?_⟩
    · obtain ⟨b, el, fr, us, k1, k2, k3, k4⟩ := cc.blk id cs f h
      exact ⟨b, el, fr, us, k1, k2, RL_mono m _ _ k3, k4⟩
    · obtain ⟨q, h⟩ := cc.grow id e h he
      refine ⟨q, ?_⟩
      rcases h with h | ⟨b, el, fr, us, rest, k1, k2, k3, k4⟩
      · exact .inl h
      · exact .inr ⟨b, el, fr, us, rest, k1, k2, RL_mono m _ _ k3, k4⟩
    · obtain ⟨us, k1, k2⟩ := cc.glob g c h
      exact ⟨us, GL_mono m k1, k2⟩
  refine wp_region_any G.follows ?_
  have hnone : (List.range ops.size).filter (fun i => (Array.replicate ops.size false).getD i false) = [] := by
    rw [List.filter_eq_nil_iff]
    intro i _
    rw [getD_rep]
    simp
  refine wpAny_perm (s0 := ⟨s.t, s.H ++ List.replicate (countS G ops.toList) .res⟩) (n0 := ops.size) (KS := fun s2 => s2 = runI es (List.range ops.size) ⟨s.t, s.H ++ List.replicate (countS G ops.toList) .res⟩) (ρb := ρ) (Ib := I) (Hb := s.H) (wb := w) ?_ (indep_of h2) (fun k o _ hk => h4 k o (by simpa using hk)) (fun _ => rfl)
    (fun i o hi ho => absurd (Array.getElem?_eq_some_iff.1 ho).1 (by omega)) ops.size (Array.replicate ops.size false) (by simp) (fun i hi hi' => by omega) (fun j o _ h => by rw [getD_rep] at h; simp at h)
    (Nat.le_trans (List.length_filter_le _ _) (by simp)) ρ I _ a ?_ ?_ ?_
  · intro ρ' I' s' a' w' hg hC' hR' hs'
    subst hs'
    refine ⟨ρ', I', _, hg, hC', hR', ?_⟩
    rw [hlen] at h3
    exact h3
  · rw [hnone]; exact cd
  · rw [hnone]; exact hr.mono m
  · rw [hnone]; exact gd


variable {ρ : Rho} {I : Imm} {H : Heap} {w : World}

theorem trim_sound : ∀ (k : Nat) {H0 : Heap} {ρ0 : Rho} {I0 : Imm} {w0 : World} {ρ : Rho} {I : Imm} {H : Heap} {w : World}, H0.length + k ≤ H.length → Good ρ0 I0 H0 w0 ρ I H w → Conc G.g ρ I H w →
    Good ρ0 I0 H0 w0 ρ I (trim k H) w ∧ Conc G.g ρ I (trim k H) w
  | 0, _, _, _, _, _, _, _, _, _, g, c => ⟨g, c⟩
  | k + 1, H0, ρ0, I0, w0, ρ, I, H, w, hl, g, c => by
    unfold trim
    split
    · rename_i h
      have hH : H = H.dropLast ++ [.res] := by
        rw [List.getLast?_eq_some_iff] at h
        obtain ⟨ys, rfl⟩ := h
        simp
      have hlen : H.dropLast.length = H.length - 1 := by simp
      rw [hH] at g c
      exact trim_sound k (by omega) (drop_res_good (by omega) g) (drop_res c)
    · exact ⟨g, c⟩


/-- All others are ahead of the last one in each order. -/
def lastAll (ops : Array Oper) : Bool := (List.range (ops.size - 1)).all fun k => ((masks ops.toList []).getD (ops.size - 1) 0).testBit k

/-- A call that is no effect: it is walked through. -/
def callF {P : Program} (G : Env P) (R : ROps G) (C : FuncId → List AV → Option (Bool × Out)) (o : Oper) (s : St) (nid : Nat) : Option (FuncId × List AV) :=
  match o.guard with
  | some _ => none
  | none => match eff G R C o.op (evA G s.t) s.H nid with
    | some _ => none
    | none => acall o.op (evA G s.t)

/-- As 'dops', but the last operation may be a call that is walked through. -/
def dopsL {P : Program} (G : Env P) (R : ROps G) (C : FuncId → List AV → Option (Bool × Out)) (ops : Array Oper) : List Oper → Nat → St → List DEff → (St → List DEff → Prop) → (Oper → FuncId → List AV → St → List DEff → Prop) → Prop
  | [], _, s, tr, K, _ => K s tr
  | [o], nid, s, tr, K, KL => match callF G R C o s nid with
    | some (f, args) => KL o f args s tr
    | none => dgstep G R C ops nid o s fun t e => fPut t e.dst e.val fun t => fUpd s.H e.upd fun H => K ⟨t, H⟩ (tr ++ [e])
  | o :: o2 :: rest, nid, s, tr, K, KL => dgstep G R C ops nid o s fun t e => fPut t e.dst e.val fun t => fUpd s.H e.upd fun H => dopsL G R C ops (o2 :: rest) (nid + slots G o.op) ⟨t, H⟩ (tr ++ [e]) K KL

theorem callF_spec {R : ROps G} {C : FuncId → List AV → Option (Bool × Out)} {o : Oper} {s : St} {nid : Nat} {f : FuncId} {args : List AV} (h : callF G R C o s nid = some (f, args)) : o.guard = none ∧ acall o.op (evA G s.t) = some (f, args) := by
  unfold callF at h
  split at h
  · simp at h
  · rename_i hg
    split at h
    · simp at h
    · exact ⟨hg, h⟩

theorem dopsL_extract {R : ROps G} {T : Ctr G} {ops : Array Oper} : ∀ (l : List Oper) {nid : Nat} {s : St} {tr : List DEff} {K : St → List DEff → Prop} {KL : Oper → FuncId → List AV → St → List DEff → Prop}, dopsL G R T.C ops l nid s tr K KL →
    ∃ es : List DEff, (∀ (k : Nat) (o : Oper), k < es.length → l[k]? = some o → DoesAt G ops o (es.getD k noEff) (runI es (List.range k) s)) ∧
      ((es.length = l.length ∧ K (runI es (List.range es.length) s) (tr ++ es)) ∨
        (es.length + 1 = l.length ∧ ∃ o f args, l[es.length]? = some o ∧ o.guard = none ∧ acall o.op (evA G (runI es (List.range es.length) s).t) = some (f, args) ∧ KL o f args (runI es (List.range es.length) s) (tr ++ es)))
  | [], nid, s, tr, K, KL, h => ⟨[], fun k o h => by simp at h, .inl ⟨rfl, by simpa [runI, dopsL] using h⟩⟩
  | [o], nid, s, tr, K, KL, h => by
    unfold dopsL at h
    split at h
    · rename_i f args hc
      obtain ⟨h1, h2⟩ := callF_spec hc
      exact ⟨[], fun k o h => by simp at h, .inr ⟨rfl, o, f, args, rfl, h1, h2, by simpa [runI] using h⟩⟩
    · obtain ⟨e, h1, h2⟩ := dgstep_sound h
      rw [fPut_eq, fUpd_eq] at h1
      refine ⟨[e], fun k o' hk hl => ?_, .inl ⟨rfl, by simpa [runI, applyE] using h1⟩⟩
      have : k = 0 := by simpa using hk
      subst this
      simp at hl
      subst hl
      simpa [runI] using h2
  | o :: o2 :: rest, nid, s, tr, K, KL, h => by
    unfold dopsL at h
    obtain ⟨e, h1, h2⟩ := dgstep_sound h
    rw [fPut_eq, fUpd_eq] at h1
    obtain ⟨es, g1, g2⟩ := dopsL_extract (o2 :: rest) (s := applyE e s) h1
    have shift : ∀ k, runI (e :: es) (List.range (k + 1)) s = runI es (List.range k) (applyE e s) := by
      intro k
      rw [List.range_succ_eq_map, runI_cons]
      simp only [runI, List.foldl_map, List.getD_cons_zero, List.getD_cons_succ]
    refine ⟨e :: es, fun k o' hk hl => ?_, ?_⟩
    · cases k with
      | zero =>
        simp at hl
        subst hl
        simpa [runI] using h2
      | succ k =>
        rw [shift]
        simpa using g1 k o' (by simpa using hk) (by simpa using hl)
    · rw [List.length_cons, shift]
      rcases g2 with ⟨q1, q2⟩ | ⟨q1, o', f, args, q2, q3, q4, q5⟩
      · exact .inl ⟨by simp [q1], by simpa using q2⟩
      · exact .inr ⟨by simpa using q1, o', f, args, by simpa using q2, q3, q4, by simpa using q5⟩

/-- A statement whose order is open, but for a call at its end. -/
theorem Tri.drawL {R : ROps G} {T : Ctr G} {cl : FuncId → List AV → St → Option Tmp → (St → Prop) → Prop} (hcl : ∀ f args s d K, cl f args s d K → callS G f args s d K) {id : Nat} {ops : Array Oper} {Q : Exit → St → Prop} {s : St}
    (h : dopsL G R T.C ops ops.toList s.H.length ⟨s.t, s.H ++ List.replicate (countS G ops.toList) .res⟩ [] (drawn ops fun e s' => fH (trim (s'.H.length - s.H.length) s'.H) fun H => Q e ⟨s'.t, H⟩)
      (fun o f args s' tr => cnd (indepB ops tr && lastAll ops) (cnd (G.go f) (fH (trim (s'.H.length - s.H.length) s'.H) fun H => cl f args ⟨s'.t, H⟩ o.dst (Q .normal))))) : Tri G (.region id ops true) Q s := by
  intro ρ I a w hc hr
  obtain ⟨es, h4, hcase⟩ := dopsL_extract ops.toList h
  obtain ⟨g, cc⟩ := reserve_conc hc (countS G ops.toList)
  have gd : Good ρ I s.H w ρ I (s.H ++ List.replicate (countS G ops.toList) .res) { w with drawn := w.drawn + 1 } :=
    ⟨g.ext, g.kp, g.len, g.imm, g.imm', rfl, rfl, rfl, Nat.le_refl _, fun _ _ _ _ => rfl, fun _ _ _ => rfl, fun _ _ => rfl, g.wrt, g.own⟩
  have m : Mono ρ I w ρ I { w with drawn := w.drawn + 1 } := ⟨fun _ _ h => h, fun _ _ h => ⟨h, rfl⟩, fun _ h => ⟨h, rfl⟩⟩
  have cd : Conc G.g ρ I (s.H ++ List.replicate (countS G ops.toList) .res) { w with drawn := w.drawn + 1 } := by
    refine ⟨cc.dom, cc.res, cc.blt, cc.inj, fun id cs f h => ?_, fun id e h he => ?_, cc.imm, fun g c h => ?_⟩
    · obtain ⟨b, el, fr, us, k1, k2, k3, k4⟩ := cc.blk id cs f h
      exact ⟨b, el, fr, us, k1, k2, RL_mono m _ _ k3, k4⟩
    · obtain ⟨q, h⟩ := cc.grow id e h he
      refine ⟨q, ?_⟩
      rcases h with h | ⟨b, el, fr, us, rest, k1, k2, k3, k4⟩
      · exact .inl h
      · exact .inr ⟨b, el, fr, us, rest, k1, k2, RL_mono m _ _ k3, k4⟩
    · obtain ⟨us, k1, k2⟩ := cc.glob g c h
      exact ⟨us, GL_mono m k1, k2⟩
  refine wp_region_any G.follows ?_
  have hnone : (List.range ops.size).filter (fun i => (Array.replicate ops.size false).getD i false) = [] := by
    rw [List.filter_eq_nil_iff]
    intro i _
    rw [getD_rep]
    simp
  rcases hcase with ⟨h1, h23⟩ | ⟨h1, o, f, args, ho, hgd, hac, h23⟩
  · obtain ⟨h2, h3⟩ := cnd_iff.1 h23
    have hlen : es.length = ops.size := by simpa using h1
    rw [List.nil_append] at h2
    rw [fH_eq] at h3
    refine wpAny_perm (s0 := ⟨s.t, s.H ++ List.replicate (countS G ops.toList) .res⟩) (n0 := ops.size) (KS := fun s2 => s2 = runI es (List.range ops.size) ⟨s.t, s.H ++ List.replicate (countS G ops.toList) .res⟩) (ρb := ρ) (Ib := I) (Hb := s.H) (wb := w) ?_ (indep_of h2) (fun k o hlt hk => h4 k o (by omega) (by simpa using hk)) (fun _ => rfl)
      (fun i o hi ho => absurd (Array.getElem?_eq_some_iff.1 ho).1 (by omega)) ops.size (Array.replicate ops.size false) (by simp) (fun i hi hi' => by omega) (fun j o _ h => by rw [getD_rep] at h; simp at h)
      (Nat.le_trans (List.length_filter_le _ _) (by simp)) ρ I _ a ?_ ?_ ?_
    · intro ρ' I' s' a' w' hg hC' hR' hs'
      subst hs'
      rw [hlen] at h3
      obtain ⟨g1, g2⟩ := trim_sound ((runI es (List.range ops.size) ⟨s.t, s.H ++ List.replicate (countS G ops.toList) .res⟩).H.length - s.H.length) (H0 := s.H) (by have := hg.len; omega) hg hC'
      exact ⟨ρ', I', ⟨_, _⟩, g1, g2, hR', h3⟩
    · rw [hnone]; exact cd
    · rw [hnone]; exact hr.mono m
    · rw [hnone]; exact gd
  · obtain ⟨h2, h3⟩ := cnd_iff.1 h23
    obtain ⟨hgo, h3⟩ := cnd_iff.1 h3
    rw [List.nil_append, Bool.and_eq_true] at h2
    obtain ⟨h2, hla⟩ := h2
    rw [fH_eq] at h3
    have hlen : es.length + 1 = ops.size := by simpa using h1
    have ho' : ops[es.length]? = some o := by simpa using ho
    have hne : es.getD es.length noEff = noEff := by simp [List.getD]
    have hfull : runI es (List.range ops.size) ⟨s.t, s.H ++ List.replicate (countS G ops.toList) .res⟩ = runI es (List.range es.length) ⟨s.t, s.H ++ List.replicate (countS G ops.toList) .res⟩ := by
      rw [← hlen, List.range_succ, runI_append]
      simp only [runI, List.foldl_cons, List.foldl_nil, hne]
      rfl
    refine wpAny_perm (s0 := ⟨s.t, s.H ++ List.replicate (countS G ops.toList) .res⟩) (n0 := es.length) (KS := fun s2 => Q .normal s2) (ρb := ρ) (Ib := I) (Hb := s.H) (wb := w) ?_ (indep_of h2) (fun k o hlt hk => h4 k o hlt (by simpa using hk)) (fun hle => by omega)
      (fun i oi hi hoi => ?_) ops.size (Array.replicate ops.size false) (by simp) (fun i hi hi' => getD_rep _ _) (fun j o _ h => by rw [getD_rep] at h; simp at h)
      (Nat.le_trans (List.length_filter_le _ _) (by simp)) ρ I _ a ?_ ?_ ?_
    · intro ρ' I' s' a' w' hg hC' hR' hs'
      exact ⟨ρ', I', s', hg, hC', hR', hs'⟩
    · have hlt := (Array.getElem?_eq_some_iff.1 hoi).1
      have hie : i = es.length := by omega
      subst hie
      rw [ho'] at hoi
      simp only [Option.some.injEq] at hoi
      subst hoi
      refine ⟨hne, fun k hk hki => ?_, ?_⟩
      · unfold lastAll at hla
        rw [List.all_eq_true] at hla
        have := hla k (by simp; omega)
        rwa [← hlen, Nat.add_sub_cancel] at this
      · intro ρ' I' w' a' next hC' hR' hg' hL
        rw [hfull] at hC' hR' hg'
        obtain ⟨g1, g2⟩ := trim_sound ((runI es (List.range es.length) ⟨s.t, s.H ++ List.replicate (countS G ops.toList) .res⟩).H.length - s.H.length) (H0 := s.H) (by have := hg'.len; omega) hg' hC'
        have re := rel_evA g2 hR'
        obtain ⟨vs, q1, q2⟩ := acall_run re hac (G.goOk f hgo)
        unfold wpOp
        rw [ho']
        simp only [Region.wanted, hgd]
        rw [if_pos trivial]
        left
        unfold Oper.wp
        rw [q1]
        have := hcl _ _ _ _ _ h3 ρ' I' w' a' vs.toList g2 hR' q2
        rw [Array.toArray_toList] at this
        refine Calls.mono this ?_
        rintro e w'' ⟨x, rfl, ρ'', I'', s'', k1, k2, k3, k4⟩
        exact hL ρ'' I'' s'' _ w'' (g1.trans k1) k2 k3 k4
    · rw [hnone]; exact cd
    · rw [hnone]; exact hr.mono m
    · rw [hnone]; exact gd

theorem extH_conc (c : Conc G.g ρ I H w) (n : Nat) : Good ρ I H w ρ I (extH H n) w ∧ Conc G.g ρ I (extH H n) w ∧ (extH H n).length = H.length + n := by
  cases n with
  | zero => exact ⟨Good.refl _ _ _ _, c, rfl⟩
  | succ n => exact ⟨(reserve_conc c (n + 1)).1, (reserve_conc c (n + 1)).2, by simp [extH]⟩

variable {R : ROps G} {T : Ctr G} {cl : FuncId → List AV → St → Option Tmp → (St → Prop) → Prop}

theorem sstep_sound (hcl : ∀ f args s d K, cl f args s d K → callS G f args s d K) (c : Conc G.g ρ I H w) {t : List AV} {a : Act} (r : RelT ρ I w t a) {o : Oper} {K : St → Prop} (h : sstep G R T.C cl o ⟨t, H⟩ K)
    {next : Act → World → Prop} {Q : Exit → Act → World → Prop} (hn : Leads G ρ I H w K next) : o.wp P a w next Q := by
  unfold sstep at h
  split at h
  · rename_i b v hv
    obtain ⟨hc, hk⟩ := cnd_iff.1 h
    refine step1_sound (K := K) c r ?_ hn
    unfold step1
    rw [hv]
    rw [fPut_eq] at hk
    exact cnd_iff.2 ⟨hc, hk⟩
  · rename_i hnone
    split at h
    · rename_i E hE
      obtain ⟨v, u, hh, hk⟩ := Eff.go_has h
      obtain ⟨g1, c1, hl1⟩ := extH_conc c (slots G o.op)
      refine eff_sound R T c1 r hE hh ?_
      intro ρ' I' x w' g c' m r'
      obtain ⟨g2, c2⟩ := trim_sound (slots G o.op) (H0 := H) (by rw [updH_len, hl1]; exact Nat.le_refl _) (g1.trans g) c'
      rw [fPut_eq, fExt_eq] at hk
      exact hn ρ' I' _ _ w' g2 c2 ((r.mono m).put o.dst r') hk
    · rename_i hE
      split at h
      · rename_i f args hcall
        obtain ⟨hg, hcs⟩ := cnd_iff.1 h
        have re := rel_evA c r
        obtain ⟨vs, h1, h2⟩ := acall_run re hcall (G.goOk f hg)
        unfold Oper.wp
        rw [h1]
        have := hcl _ _ _ _ _ hcs ρ I w a vs.toList c r h2
        rw [Array.toArray_toList] at this
        refine Calls.mono this ?_
        rintro e w' ⟨x, rfl, ρ', I', s', g1, g2, g3, g4⟩
        exact hn ρ' I' s' _ w' g1 g2 g3 g4
      · exact (stuckAt_no h).elim

theorem sgstep_sound (hcl : ∀ f args s d K, cl f args s d K → callS G f args s d K) (c : Conc G.g ρ I H w) {t : List AV} {a : Act} (r : RelT ρ I w t a) {ops : Array Oper} {o : Oper} {K : St → Prop} (h : sgstep G R T.C cl ops o ⟨t, H⟩ K)
    {next : Act → World → Prop} {Q : Exit → Act → World → Prop} (hn : Leads G ρ I H w K next) :
    if Region.wanted o (yielded ops a.tmps) then o.wp P a w next Q else next (a.put o.dst undef) w := by
  have take : sstep G R T.C cl o ⟨t, H⟩ K → Region.wanted o (yielded ops a.tmps) = true → if Region.wanted o (yielded ops a.tmps) then o.wp P a w next Q else next (a.put o.dst undef) w := by
    intro h hy
    rw [hy]
    simp only [if_true]
    exact sstep_sound hcl c r h hn
  have skip : K ⟨putA t o.dst (.tup []), H⟩ → Region.wanted o (yielded ops a.tmps) = false → if Region.wanted o (yielded ops a.tmps) then o.wp P a w next Q else next (a.put o.dst undef) w := by
    intro h hy
    rw [hy]
    simp only [Bool.false_eq_true, if_false]
    exact hn ρ I _ _ w (Good.refl _ _ _ _) c (r.put _ rel_undef) h
  unfold sgstep at h
  split at h
  · rename_i hg
    exact take h (by unfold Region.wanted; rw [hg])
  · rename_i j want hg
    split at h
    · rename_i hd
      rw [fPut_eq] at h
      refine skip h ?_
      unfold Region.wanted
      rw [hg]
      have : yielded ops a.tmps j = none := by unfold yielded; rw [hd]; rfl
      simp [this]
    · rename_i d hd
      split at h
      · rename_i b hb
        rw [tget_eq] at hb
        have h := ifW_iff.1 h
        by_cases e : b = want
        · have h1 := h.1 e
          subst e
          simp only at hb
          rw [setB_eq hb] at h1
          refine take h1 ?_
          unfold Region.wanted
          rw [hg]
          simp only
          rw [yielded_of r hd hb]
          simp
        · have e' : b = !want := by cases b <;> cases want <;> simp_all
          have h1 := h.2 e'
          simp only at hb
          rw [setB_eq (by rw [hb, e']), fPut_eq] at h1
          refine skip h1 ?_
          unfold Region.wanted
          rw [hg]
          simp only
          rw [yielded_of r hd hb]
          simp [e]
      · rename_i l hl
        rw [tget_eq] at hl
        rw [fPut_eq] at h
        refine skip h ?_
        unfold Region.wanted
        rw [hg]
        simp only
        rw [yielded_tup r hd hl]
        simp
      · exact (stuckAt_no h).elim

theorem sops_sound (hcl : ∀ f args s d K, cl f args s d K → callS G f args s d K) {ops : Array Oper} {Q : Exit → Act → World → Prop} : ∀ (l : List Oper) {ρ : Rho} {I : Imm} {H : Heap} {w : World} {t : List AV} {a : Act} {K : St → Prop},
    Conc G.g ρ I H w → RelT ρ I w t a → sops G R T.C cl ops l ⟨t, H⟩ K → Leads G ρ I H w K (Q .normal) → wpList P ops Q l a w
  | [], ρ, I, H, w, t, a, K, c, r, h, hn => hn ρ I ⟨t, H⟩ a w (Good.refl _ _ _ _) c r h
  | o :: rest, ρ, I, H, w, t, a, K, c, r, h, hn => by
    have := sgstep_sound hcl (Q := Q) c r (K := fun s' => sops G R T.C cl ops rest s' K) h (next := wpList P ops Q rest)
      (fun ρ' I' s' a' w' g c' r' k => sops_sound hcl rest c' r' k (hn.on g))
    unfold wpList
    split
    · rename_i hw
      rw [if_pos hw] at this
      exact .inl this
    · rename_i hw
      rw [if_neg hw] at this
      exact this

/-- A region in the order of its text. -/
theorem Tri.sregion (hcl : ∀ f args s d K, cl f args s d K → callS G f args s d K) {id : Nat} {ops : Array Oper} {Q : Exit → St → Prop} {s : St} (h : sops G R T.C cl ops ops.toList s (Q .normal)) : Tri G (.region id ops false) Q s := by
  intro ρ I a w hc hr
  refine wp_region_list (sops_sound hcl ops.toList hc hr h ?_)
  intro ρ' I' s' a' w' g c r k
  exact ⟨ρ', I', s', g, c, r, k⟩
end
end
end Go.V
