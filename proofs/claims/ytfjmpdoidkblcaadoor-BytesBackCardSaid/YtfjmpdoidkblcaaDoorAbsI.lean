/- The abstract layer, part I: whatever order a statement's operations are taken in, it comes to the same. -/
import Derived.Test.YtfjmpdoidkblcaaDoorAbsH
set_option linter.unusedSimpArgs false
set_option linter.unusedVariables false
namespace Go.Ab
open Go

def noEff : DEff := ⟨none, .any, none, []⟩

def runI (es : List DEff) (l : List Nat) (s : St) : St := l.foldl (fun s i => applyE (es.getD i noEff) s) s

theorem runI_cons (es : List DEff) (i : Nat) (l : List Nat) (s : St) : runI es (i :: l) s = runI es l (applyE (es.getD i noEff) s) := rfl
theorem runI_append (es : List DEff) (l l' : List Nat) (s : St) : runI es (l ++ l') s = runI es l' (runI es l s) := by simp [runI]

theorem applyE_len (e : DEff) (s : St) : (applyE e s).t.length = s.t.length ∧ (applyE e s).H.length = s.H.length := by
  refine ⟨?_, ?_⟩
  · simp only [applyE, putA]; split <;> simp
  · simp only [applyE]; split <;> simp

theorem putA_getD (t : List AV) (d : Option Tmp) (v : AV) (x : Nat) : (putA t d v).getD x .any = if d = some x ∧ x < t.length then v else t.getD x .any := by
  cases d with
  | none => simp [putA]
  | some d =>
    simp only [putA, List.getD_eq_getElem?_getD, List.getElem?_set, Option.some.injEq]
    by_cases h : d = x
    · subst h
      by_cases h2 : d < t.length
      · simp [h2]
      · simp [h2]
    · simp [h]

/-- What stands in a temporary behind a run hangs on those alone that write it. -/
theorem runI_tmp (es : List DEff) (x : Nat) : ∀ (l : List Nat) (s s' : St), s.t.getD x .any = s'.t.getD x .any → s.t.length = s'.t.length →
    (runI es l s).t.getD x .any = (runI es (l.filter fun i => (es.getD i noEff).dst = some x) s').t.getD x .any
  | [], s, s', h, _ => h
  | i :: l, s, s', h, hl => by
    rw [runI_cons]
    by_cases hd : (es.getD i noEff).dst = some x
    · rw [List.filter_cons_of_pos (by simpa using hd), runI_cons]
      refine runI_tmp es x l _ _ ?_ (by rw [(applyE_len _ _).1, (applyE_len _ _).1, hl])
      simp only [applyE, putA_getD, hd, hl, h]
    · rw [List.filter_cons_of_neg (by simpa using hd)]
      refine runI_tmp es x l _ _ ?_ (by rw [(applyE_len _ _).1, hl])
      rw [← h]
      simp only [applyE, putA_getD, hd, false_and, if_false]

def wrH (e : DEff) (id : Nat) : Bool := match e.upd with
  | some (i, _) => i == id
  | none => false

theorem applyE_H (e : DEff) (s : St) (id : Nat) (h : wrH e id = false) : (applyE e s).H[id]? = s.H[id]? := by
  simp only [applyE]
  unfold wrH at h
  split at h
  · rename_i i x hu
    rw [hu]
    simp only
    rw [List.getElem?_set_ne (by simpa using h)]
  · rename_i hu; rw [hu]

theorem applyE_H_same (e : DEff) (s s' : St) (id : Nat) (h : wrH e id = true) (hl : s.H.length = s'.H.length) : (applyE e s).H[id]? = (applyE e s').H[id]? := by
  simp only [applyE]
  unfold wrH at h
  split at h
  · rename_i i x hu
    have : i = id := by simpa using h
    subst this
    rw [hu]
    simp only [List.getElem?_set, if_true, hl]
  · simp at h

theorem runI_H (es : List DEff) (id : Nat) : ∀ (l : List Nat) (s s' : St), s.H[id]? = s'.H[id]? → s.H.length = s'.H.length →
    (runI es l s).H[id]? = (runI es (l.filter fun i => wrH (es.getD i noEff) id) s').H[id]?
  | [], s, s', h, _ => h
  | i :: l, s, s', h, hl => by
    rw [runI_cons]
    cases hd : wrH (es.getD i noEff) id
    · rw [List.filter_cons_of_neg (by rw [hd]; simp)]
      exact runI_H es id l _ _ (by rw [← h]; exact applyE_H _ _ _ hd) (by rw [(applyE_len _ _).2, hl])
    · rw [List.filter_cons_of_pos (p := fun i => wrH (es.getD i noEff) id) hd, runI_cons]
      exact runI_H es id l _ _ (applyE_H_same _ _ _ _ hd hl) (by rw [(applyE_len _ _).2, (applyE_len _ _).2, hl])

/-- Two that touch nothing in common. -/
theorem applyE_comm (e f : DEff) (s : St) (h1 : ∀ d, e.dst = some d → f.dst ≠ some d) (h2 : ∀ i x, e.upd = some (i, x) → wrH f i = false) : applyE e (applyE f s) = applyE f (applyE e s) := by
  have ht : putA (putA s.t f.dst f.val) e.dst e.val = putA (putA s.t e.dst e.val) f.dst f.val := by
    cases he : e.dst with
    | none => rfl
    | some d =>
      cases hf : f.dst with
      | none => rfl
      | some d' =>
        have : d ≠ d' := fun h => h1 d he (by rw [hf, h])
        simp only [putA]
        rw [List.set_comm _ _ this.symm]
  simp only [applyE, ht, St.mk.injEq, true_and]
  cases he : e.upd with
  | none => rfl
  | some p =>
    obtain ⟨i, x⟩ := p
    cases hf : f.upd with
    | none => rfl
    | some q =>
      obtain ⟨j, y⟩ := q
      have := h2 i x he
      simp only [wrH, hf, beq_eq_false_iff_ne, ne_eq] at this
      simp only
      rw [List.set_comm _ _ this]

theorem runI_comm (es : List DEff) (e : DEff) : ∀ (l : List Nat) (s : St), (∀ j ∈ l, (∀ d, e.dst = some d → (es.getD j noEff).dst ≠ some d) ∧ ∀ i x, e.upd = some (i, x) → wrH (es.getD j noEff) i = false) →
    runI es l (applyE e s) = applyE e (runI es l s)
  | [], _, _ => rfl
  | j :: l, s, h => by
    obtain ⟨h1, h2⟩ := h j (by simp)
    rw [runI_cons, runI_cons, ← applyE_comm e _ s h1 h2]
    exact runI_comm es e l _ fun k hk => h k (by simp [hk])

theorem filter_more (p p' : Nat → Bool) (i : Nat) (hp : p i = false) (hp' : ∀ j, p' j = (p j || j == i)) : ∀ (n : Nat), i < n →
    ∃ l1 l2, (List.range n).filter p = l1 ++ l2 ∧ (List.range n).filter p' = l1 ++ i :: l2 ∧ ∀ j ∈ l2, i < j ∧ p j = true ∧ j < n
  | 0, h => by omega
  | n + 1, h => by
    have hsame : ∀ m, m ≤ i → (List.range m).filter p' = (List.range m).filter p := by
      intro m hm
      refine List.filter_congr fun j hj => ?_
      have : j < m := by simpa using hj
      rw [hp' j]
      have : (j == i) = false := by simp; omega
      simp [this]
    rw [List.range_succ, List.filter_append, List.filter_append]
    by_cases e : i = n
    · subst e
      refine ⟨(List.range i).filter p, [], by simp [hp], by simp [hsame i (Nat.le_refl _), hp'], by simp⟩
    · obtain ⟨l1, l2, h1, h2, h3⟩ := filter_more p p' i hp hp' n (by omega)
      have hn : p' n = p n := by rw [hp' n]; have : (n == i) = false := by simp; omega
                                 simp [this]
      cases hpn : p n
      · refine ⟨l1, l2, by simp [h1, hpn], by simp [h2, hn, hpn], fun j hj => ⟨(h3 j hj).1, (h3 j hj).2.1, by have := (h3 j hj).2.2; omega⟩⟩
      · refine ⟨l1, l2 ++ [n], by simp [h1, hpn], by simp [h2, hn, hpn], fun j hj => ?_⟩
        rcases List.mem_append.1 hj with hj | hj
        · exact ⟨(h3 j hj).1, (h3 j hj).2.1, by have := (h3 j hj).2.2; omega⟩
        · have : j = n := by simpa using hj
          subst this
          exact ⟨by omega, hpn, by omega⟩

/-- Which operations must have been before one: a number's bits. -/
def msk (acc : List Nat) (o : Oper) : Nat := o.after.toList.foldl (fun m e => if Region.binds .any e then (m ||| 2 ^ e.on) ||| acc.getD e.on 0 else m) 0
def masks : List Oper → List Nat → List Nat
  | [], acc => acc
  | o :: r, acc => masks r (acc ++ [msk acc o])

theorem msk_rel (R : Nat → Nat → Prop) (trans : ∀ j m i, R j m → R m i → R j i) {acc : List Nat} {o : Oper} {k : Nat} (hacc : ∀ j i, (acc.getD j 0).testBit i = true → R j i)
    (ho : ∀ e ∈ o.after, Region.binds .any e = true → R k e.on) {i : Nat} (h : (msk acc o).testBit i = true) : R k i := by
  unfold msk at h
  have key : ∀ (l : List Edge) (m : Nat), (∀ e ∈ l, e ∈ o.after) → (m.testBit i = true → R k i) →
      (l.foldl (fun m e => if Region.binds .any e then (m ||| 2 ^ e.on) ||| acc.getD e.on 0 else m) m).testBit i = true → R k i := by
    intro l
    induction l with
    | nil => intro m _ hm h; exact hm h
    | cons e l ih =>
      intro m hl hm h
      rw [List.foldl_cons] at h
      refine ih _ (fun x hx => hl x (by simp [hx])) ?_ h
      intro hb
      by_cases hbd : Region.binds .any e = true
      · rw [if_pos hbd, Nat.testBit_or, Nat.testBit_or, Bool.or_eq_true, Bool.or_eq_true] at hb
        rcases hb with (hb | hb) | hb
        · exact hm hb
        · rw [Nat.testBit_two_pow] at hb
          have : e.on = i := by simpa using hb
          rw [← this]
          exact ho e (hl e (by simp)) hbd
        · exact trans _ _ _ (ho e (hl e (by simp)) hbd) (hacc e.on i hb)
      · rw [if_neg hbd] at hb
        exact hm hb
  exact key _ 0 (fun e he => by simpa using he) (by simp) h

theorem masks_rel (R : Nat → Nat → Prop) (trans : ∀ j m i, R j m → R m i → R j i) : ∀ (l : List Oper) (acc : List Nat), (∀ j i, (acc.getD j 0).testBit i = true → R j i) →
    (∀ k o, l[k]? = some o → ∀ e ∈ o.after, Region.binds .any e = true → R (acc.length + k) e.on) → ∀ j i, ((masks l acc).getD j 0).testBit i = true → R j i
  | [], acc, h, _ => h
  | o :: r, acc, h, hd => by
    refine masks_rel R trans r (acc ++ [msk acc o]) ?_ ?_
    · intro j i hb
      rw [List.getD_eq_getElem?_getD] at hb
      rcases Nat.lt_or_ge j acc.length with hlt | hge
      · rw [List.getElem?_append_left hlt, ← List.getD_eq_getElem?_getD] at hb
        exact h j i hb
      · rw [List.getElem?_append_right hge] at hb
        by_cases e : j = acc.length
        · subst e
          simp at hb
          exact msk_rel R trans h (hd 0 o rfl) hb
        · have : 1 ≤ j - acc.length := by omega
          rw [List.getElem?_eq_none (by simpa using this)] at hb
          simp at hb
    · intro k o' hk
      rw [List.length_append, List.length_singleton, show acc.length + 1 + k = acc.length + (k + 1) by omega]
      exact hd (k + 1) o' (by simpa using hk)

/-- May two effects be taken in either order, as far as entries go? -/
def freeH (e f : DEff) : Bool :=
  (match e.upd with
   | some (i, _) => !f.reads.contains i
   | none => true) &&
  (match f.upd with
   | some (i, _) => !e.reads.contains i
   | none => true)

/-- Each two operations are in an order, or touch nothing in common; and orders go by the text. -/
def indepB (ops : Array Oper) (tr : List DEff) : Bool :=
  let ms := masks ops.toList []
  (List.range ops.size).all fun j =>
    ((ops.getD j default).after.all fun e => !Region.binds .any e || decide (e.on < j)) &&
    (List.range j).all fun i => (ms.getD j 0).testBit i || ((ops.getD i default).apart ops (ops.getD j default) && freeH (tr.getD i noEff) (tr.getD j noEff))

section
variable {P : Program} {G : Glob}

theorem dops_extract {ops : Array Oper} : ∀ (l : List Oper) {nid : Nat} {s : St} {tr : List DEff} {K : St → List DEff → Prop}, dops P G ops l nid s tr K →
    ∃ es : List DEff, es.length = l.length ∧ K (runI es (List.range es.length) s) (tr ++ es) ∧
      ∀ (k : Nat) (o : Oper), l[k]? = some o → DoesAt P G ops o (es.getD k noEff) (runI es (List.range k) s)
  | [], nid, s, tr, K, h => ⟨[], rfl, by simpa [runI, dops] using h, fun k o h => by simp at h⟩
  | o :: rest, nid, s, tr, K, h => by
    obtain ⟨e, h1, h2⟩ := dgstep_sound h
    obtain ⟨es, g1, g2, g3⟩ := dops_extract rest h1
    have shift : ∀ k, runI (e :: es) (List.range (k + 1)) s = runI es (List.range k) (applyE e s) := by
      intro k
      rw [List.range_succ_eq_map, runI_cons]
      simp only [runI, List.foldl_map, List.getD_cons_zero, List.getD_cons_succ]
    refine ⟨e :: es, by simp [g1], ?_, ?_⟩
    · rw [List.length_cons, shift]
      simpa using g2
    · intro k o' hk
      cases k with
      | zero =>
        simp at hk
        subst hk
        simpa [runI] using h2
      | succ k =>
        rw [shift]
        simpa using g3 k o' (by simpa using hk)

structure Indep (ops : Array Oper) (es : List DEff) : Prop where
  fwd : ∀ j o, ops[j]? = some o → ∀ e ∈ o.after, Region.binds .any e = true → e.on < j
  pair : ∀ i j oi oj, i < j → ops[i]? = some oi → ops[j]? = some oj → ((masks ops.toList []).getD j 0).testBit i = true ∨ (oi.apart ops oj = true ∧ freeH (es.getD i noEff) (es.getD j noEff) = true)

theorem indep_of {ops : Array Oper} {es : List DEff} (h : indepB ops es = true) : Indep ops es := by
  unfold indepB at h
  simp only [List.all_eq_true, List.mem_range, Bool.and_eq_true, Bool.or_eq_true] at h
  refine ⟨?_, ?_⟩
  · intro j o ho e he hb
    have hlt : j < ops.size := (Array.getElem?_eq_some_iff.1 ho).1
    have h1 := (h j hlt).1
    have hg : ops.getD j default = o := by simp [ho]
    rw [hg, Array.all_eq_true_iff_forall_mem] at h1
    have := h1 e he
    simpa [hb] using this
  · intro i j oi oj hij hi hj
    have hlt : j < ops.size := (Array.getElem?_eq_some_iff.1 hj).1
    have h1 := (h j hlt).2 i hij
    have hgi : ops.getD i default = oi := by simp [hi]
    have hgj : ops.getD j default = oj := by simp [hj]
    rw [hgi, hgj] at h1
    exact h1

theorem wpAny_perm {ops : Array Oper} {es : List DEff} {s0 : St} {Q : Exit → Act → World → Prop} (hlen : es.length = ops.size) (hI : Indep ops es)
    (hd : ∀ (k : Nat) (o : Oper), ops[k]? = some o → DoesAt P G ops o (es.getD k noEff) (runI es (List.range k) s0)) :
    ∀ (fuel : Nat) (listed : Array Bool), listed.size = ops.size → (∀ j o, ops[j]? = some o → listed.getD j false = true → ∀ e ∈ o.after, Region.binds .any e = true → listed.getD e.on false = true) →
      ((List.range ops.size).filter fun i => !listed.getD i false).length ≤ fuel → ∀ (ρ : Rho) (I : Imm) (w : World) (a : Act),
      Conc G ρ I (runI es ((List.range ops.size).filter fun i => listed.getD i false) s0).H w → RelT ρ I w (runI es ((List.range ops.size).filter fun i => listed.getD i false) s0).t a →
      Leads G ρ I (runI es ((List.range ops.size).filter fun i => listed.getD i false) s0).H w (fun s2 => s2 = runI es (List.range ops.size) s0) (Q .normal) →
      wpAny P .any ops Q fuel listed a w := by
  have alldone : ∀ (listed : Array Bool), listed.size = ops.size → (∀ i, i < ops.size → listed.getD i false = true) → (List.range ops.size).filter (fun i => listed.getD i false) = List.range ops.size := by
    intro listed _ h
    rw [List.filter_eq_self]
    intro i hi
    exact h i (by simpa using hi)
  have stuck : ∀ (listed : Array Bool), listed.size = ops.size → Region.ready .any ops listed = [] → ∀ n i, i < n → i < ops.size → listed.getD i false = true := by
    intro listed hsz hr n
    induction n with
    | zero => intro i hi; omega
    | succ n ih =>
      intro i hi hlt
      refine Classical.byContradiction fun hn => ?_
      have hn' : listed.getD i false = false := by simpa using hn
      have hmem : i ∈ Region.ready .any ops listed := by
        rw [mem_ready]
        have hlt' : i < listed.size := by omega
        refine ⟨by simpa [hlt'] using hn', ops[i], by simp [hlt], fun e he hb => ?_⟩
        have := hI.fwd i ops[i] (by simp [hlt]) e he hb
        exact ih e.on (by omega) (by omega)
      rw [hr] at hmem
      simp at hmem
  have fin : ∀ (listed : Array Bool), listed.size = ops.size → Region.ready .any ops listed = [] → ∀ (ρ : Rho) (I : Imm) (w : World) (a : Act),
      Conc G ρ I (runI es ((List.range ops.size).filter fun i => listed.getD i false) s0).H w → RelT ρ I w (runI es ((List.range ops.size).filter fun i => listed.getD i false) s0).t a →
      Leads G ρ I (runI es ((List.range ops.size).filter fun i => listed.getD i false) s0).H w (fun s2 => s2 = runI es (List.range ops.size) s0) (Q .normal) → Q .normal a w := by
    intro listed hsz hr ρ I w a hC hR hn
    have := alldone listed hsz (fun i hi => stuck listed hsz hr (i + 1) i (by omega) hi)
    rw [this] at hC hR hn
    exact hn ρ I (runI es (List.range ops.size) s0) a w (Good.refl _ _ _ _) hC hR rfl
  intro fuel
  induction fuel with
  | zero =>
    intro listed hsz _ hcount ρ I w a hC hR hn
    have hall : ∀ i, i < ops.size → listed.getD i false = true := by
      intro i hi
      refine Classical.byContradiction fun hf => ?_
      have hm : i ∈ (List.range ops.size).filter fun i => !listed.getD i false := by
        rw [List.mem_filter]
        exact ⟨by simpa using hi, by simpa using hf⟩
      have := List.length_pos_of_mem hm
      omega
    have hr : Region.ready .any ops listed = [] := by
      refine List.eq_nil_iff_forall_not_mem.2 fun j hj => ?_
      rw [mem_ready] at hj
      obtain ⟨h1, o, ho, _⟩ := hj
      have hlt : j < ops.size := (Array.getElem?_eq_some_iff.1 ho).1
      have hlt' : j < listed.size := by omega
      have := hall j hlt
      simp [hlt'] at h1 this
      rw [h1] at this
      simp at this
    exact ⟨hr, fin listed hsz hr ρ I w a hC hR hn⟩
  | succ fuel ih =>
    intro listed hsz hdc hcount ρ I w a hC hR hn
    refine ⟨fun hr => fin listed hsz hr ρ I w a hC hR hn, ?_⟩
    intro i hi
    rw [mem_ready] at hi
    obtain ⟨h1, oi, hoi, hrd⟩ := hi
    have hlt : i < ops.size := (Array.getElem?_eq_some_iff.1 hoi).1
    have hlt' : i < listed.size := by omega
    have hni : listed.getD i false = false := by simpa [hlt'] using h1
    -- what was before i is listed
    have hmlt : ∀ j k, ((masks ops.toList []).getD j 0).testBit k = true → k < j :=
      masks_rel (fun j i => i < j) (fun _ _ _ h1 h2 => Nat.lt_trans h2 h1) ops.toList [] (by simp) (fun k o hk e he hb => by
        simp only [List.length_nil, Nat.zero_add]
        exact hI.fwd k o (by simpa using hk) e he hb)
    have hdown : ∀ j k, ((masks ops.toList []).getD j 0).testBit k = true → (listed.getD j false = true ∨ j = i) → (listed.getD k false = true ∨ k = i) :=
      masks_rel (fun j k => (listed.getD j false = true ∨ j = i) → (listed.getD k false = true ∨ k = i)) (fun _ _ _ h1 h2 h => h2 (h1 h)) ops.toList [] (by simp) (fun k o hk e he hb hD => by
        simp only [List.length_nil, Nat.zero_add] at hD
        have hk' : ops[k]? = some o := by simpa using hk
        rcases hD with hD | hD
        · exact .inl (hdc k o hk' hD e he hb)
        · subst hD
          rw [hoi] at hk'
          simp at hk'
          subst hk'
          exact .inl (hrd e he hb))
    have hbef : ∀ k, ((masks ops.toList []).getD i 0).testBit k = true → listed.getD k false = true := fun k hk => by
      rcases hdown i k hk (.inr rfl) with h | h
      · exact h
      · have := hmlt i k hk; omega
    have hdc' : ∀ j k, ((masks ops.toList []).getD j 0).testBit k = true → listed.getD j false = true → listed.getD k false = true := 
      masks_rel (fun j k => listed.getD j false = true → listed.getD k false = true) (fun _ _ _ h1 h2 h => h2 (h1 h)) ops.toList [] (by simp) (fun k o hk e he hb hD => by
        simp only [List.length_nil, Nat.zero_add] at hD
        exact hdc k o (by simpa using hk) hD e he hb)
    obtain ⟨hdst, hupd, hdo⟩ := hd i oi hoi
    -- an operation that is listed and behind i in the text touches nothing of i's, and so does one that is ahead of it and not listed
    have hfree : ∀ j oj, ops[j]? = some oj → j ≠ i → (listed.getD j false = true ↔ j < i) ∨
        ((∀ d, oj.dst = some d → d ∉ oi.looksAt ops) ∧ (∀ d, oi.dst = some d → oj.dst ≠ some d) ∧ (∀ q x, (es.getD i noEff).upd = some (q, x) → wrH (es.getD j noEff) q = false) ∧
          ∀ q ∈ (es.getD i noEff).reads, wrH (es.getD j noEff) q = false) := by
      intro j oj hoj hji
      have wr : ∀ (e f : DEff), (∀ q x, e.upd = some (q, x) → q ∈ e.reads) → (match f.upd with | some (p, _) => !e.reads.contains p | none => true) = true → (∀ q x, e.upd = some (q, x) → wrH f q = false) ∧ ∀ q ∈ e.reads, wrH f q = false := by
        intro e f he hf
        have h2 : ∀ q ∈ e.reads, wrH f q = false := by
          intro q hq
          unfold wrH
          split
          · rename_i p y hp
            rw [hp] at hf
            simp only [Bool.not_eq_true', List.contains_eq_mem, decide_eq_false_iff_not] at hf
            simp only [beq_eq_false_iff_ne, ne_eq]
            rintro rfl
            exact hf hq
          · rfl
        exact ⟨fun q x hq => h2 q (he q x hq), h2⟩
      rcases Nat.lt_or_ge j i with hlt2 | hge2
      · rcases hI.pair j i oj oi hlt2 hoj hoi with hb | ⟨hap, hfr⟩
        · exact .inl ⟨fun _ => hlt2, fun _ => hbef j hb⟩
        · obtain ⟨a1, a2, a3⟩ := Oper.apart_spec hap
          simp only [freeH, Bool.and_eq_true] at hfr
          obtain ⟨w1, w2⟩ := wr (es.getD i noEff) (es.getD j noEff) hupd hfr.1
          exact .inr ⟨a1, fun d hd h => a2 d h hd, w1, w2⟩
      · have hgt : i < j := by omega
        rcases hI.pair i j oi oj hgt hoi hoj with hb | ⟨hap, hfr⟩
        · refine .inl ⟨fun hl => ?_, fun h => by omega⟩
          have := hdc' j i hb hl
          rw [hni] at this
          simp at this
        · obtain ⟨a1, a2, a3⟩ := Oper.apart_spec hap
          simp only [freeH, Bool.and_eq_true] at hfr
          obtain ⟨w1, w2⟩ := wr (es.getD i noEff) (es.getD j noEff) hupd hfr.2
          exact .inr ⟨a3, fun d hd => a2 d hd, w1, w2⟩
    have hdstj : ∀ j oj, ops[j]? = some oj → (es.getD j noEff).dst = oj.dst := fun j oj hj => (hd j oj hj).1
    have hrange : List.range i = (List.range ops.size).filter fun j => decide (j < i) := by
      have : ∀ n, i ≤ n → List.range i = (List.range n).filter fun j => decide (j < i) := by
        intro n
        induction n with
        | zero => intro h; have : i = 0 := by omega
                  subst this; rfl
        | succ n ihn =>
          intro h
          rw [List.range_succ, List.filter_append]
          by_cases e : i = n + 1
          · subst e
            rw [List.filter_eq_self.2 (fun j hj => by simp at hj; simp; omega)]
            simp [List.range_succ]
          · rw [← ihn (by omega)]
            have : ¬ n < i := by omega
            simp [this]
      exact this _ (by omega)
    -- the state as it stands looks to i as the text's own
    have agree : Agree G ops oi (es.getD i noEff).reads (runI es (List.range i) s0) (runI es ((List.range ops.size).filter fun i => listed.getD i false) s0) := by
      refine ⟨fun t ht => ?_, fun q hq => ?_⟩
      · rw [runI_tmp es t _ s0 s0 rfl rfl, runI_tmp es t (List.range i) s0 s0 rfl rfl]
        rw [hrange, List.filter_filter, List.filter_filter]
        congr 3
        refine List.filter_congr fun j hj => ?_
        have hj' : j < ops.size := by simpa using hj
        obtain ⟨oj, hoj⟩ : ∃ oj, ops[j]? = some oj := ⟨ops[j], by simp [hj']⟩
        by_cases hjd : (es.getD j noEff).dst = some t
        · simp only [hjd, decide_true, Bool.true_and]
          by_cases hji : j = i
          · subst hji; simp [hni]
          · rcases hfree j oj hoj hji with h | ⟨h, _⟩
            · rw [Bool.eq_iff_iff]; simpa using h
            · exact absurd ht (h t (by rw [← hdstj j oj hoj]; exact hjd))
        · simp only [hjd, decide_false, Bool.false_and]
      · rw [runI_H es q _ s0 s0 rfl rfl, runI_H es q (List.range i) s0 s0 rfl rfl]
        rw [hrange, List.filter_filter, List.filter_filter]
        congr 3
        refine List.filter_congr fun j hj => ?_
        have hj' : j < ops.size := by simpa using hj
        obtain ⟨oj, hoj⟩ : ∃ oj, ops[j]? = some oj := ⟨ops[j], by simp [hj']⟩
        cases hjw : wrH (es.getD j noEff) q
        · simp
        · simp only [Bool.true_and]
          by_cases hji : j = i
          · subst hji; simp [hni]
          · rcases hfree j oj hoj hji with h | ⟨_, _, _, h⟩
            · rw [Bool.eq_iff_iff]; simpa using h
            · rw [h q hq] at hjw; simp at hjw
    have hset : ∀ j, (listed.setIfInBounds i true).getD j false = (listed.getD j false || j == i) := by
      intro j
      by_cases e : i = j
      · subst e; simp [hlt']
      · rw [getD_set_ne false e]
        have : (j == i) = false := by simp; omega
        simp [this]
    obtain ⟨l1, l2, k1, k2, k3⟩ := filter_more (fun j => listed.getD j false) (fun j => (listed.setIfInBounds i true).getD j false) i hni hset ops.size hlt
    have hnew : runI es ((List.range ops.size).filter fun j => (listed.setIfInBounds i true).getD j false) s0 =
        applyE (es.getD i noEff) (runI es ((List.range ops.size).filter fun i => listed.getD i false) s0) := by
      rw [k2, k1, runI_append, runI_append, runI_cons]
      refine runI_comm es _ l2 _ fun j hj => ?_
      obtain ⟨q1, q2, q3⟩ := k3 j hj
      obtain ⟨oj, hoj⟩ : ∃ oj, ops[j]? = some oj := ⟨ops[j], by simp [q3]⟩
      rcases hfree j oj hoj (by omega) with h | ⟨_, h2, h3, _⟩
      · have := h.1 q2; omega
      · exact ⟨fun d hd' => by rw [hdstj j oj hoj]; exact h2 d (by rw [← hdst]; exact hd'), h3⟩
    have := hdo _ agree ρ I w a (wpAny P .any ops Q fuel (listed.setIfInBounds i true)) Q hC hR (by
      intro ρ' I' s' a' w' hg hC' hR' hs'
      subst hs'
      rw [← hnew] at hC' hR' hg
      refine ih (listed.setIfInBounds i true) (by simpa using hsz) ?_ ?_ ρ' I' w' a' hC' hR' (hn.on hg)
      · intro j o ho hl e he hb
        rw [hset] at hl ⊢
        rw [Bool.or_eq_true] at hl ⊢
        left
        rcases hl with hl | hl
        · exact hdc j o ho hl e he hb
        · have : j = i := by simpa using hl
          subst this
          rw [hoi] at ho
          simp at ho
          subst ho
          exact hrd e he hb
      · have hcl : ((List.range ops.size).filter fun j => !(listed.setIfInBounds i true).getD j false).length + 1 ≤ ((List.range ops.size).filter fun j => !listed.getD j false).length := by
          obtain ⟨m1, m2, n1, n2, _⟩ := filter_more (fun j => !(listed.setIfInBounds i true).getD j false) (fun j => !listed.getD j false) i (by show (!(listed.setIfInBounds i true).getD i false) = false; rw [hset i, beq_self_eq_true, Bool.or_true]; rfl) (fun j => by
            show (!listed.getD j false) = (!(listed.setIfInBounds i true).getD j false || j == i)
            rw [hset j]
            by_cases e : j = i
            · subst e; rw [hni]; simp
            · have : (j == i) = false := by simp [e]
              rw [this, Bool.or_false, Bool.or_false]) ops.size hlt
          rw [n1, n2]
          simp
          omega
        omega)
    unfold wpOp
    rw [hoi]
    simp only
    split
    · rename_i hw; rw [if_pos hw] at this; exact .inl this
    · rename_i hw; rw [if_neg hw] at this; exact this

theorem getD_rep (m j : Nat) : (Array.replicate m false).getD j false = false := by
  simp only [Array.getD_eq_getD_getElem?, Array.getElem?_replicate]
  split <;> rfl

def countAlloc (ops : Array Oper) : Nat := (ops.toList.filter fun o => (isAlloc o.op).isSome).length

/-- A statement whose order is open. -/
theorem Tri.draw (hm : P.follows .mixedOrders = true) {id : Nat} {ops : Array Oper} {Q : Exit → St → Prop} {s : St}
    (h : dops P G ops ops.toList s.H.length ⟨s.t, s.H ++ List.replicate (countAlloc ops) .res⟩ [] fun s' tr => indepB ops tr = true ∧ Q .normal s') : Tri P G (.region id ops true) Q s := by
  intro ρ I a w hc hr
  obtain ⟨es, h1, ⟨h2, h3⟩, h4⟩ := dops_extract ops.toList h
  have hlen : es.length = ops.size := by simpa using h1
  rw [List.nil_append] at h2
  obtain ⟨g, cc⟩ := reserve_conc hc (countAlloc ops)
  have gd : Good ρ I s.H w ρ I (s.H ++ List.replicate (countAlloc ops) .res) { w with drawn := w.drawn + 1 } :=
    ⟨g.ext, g.len, g.imm, g.imm', rfl, rfl, rfl, Nat.le_refl _, fun _ _ _ _ => rfl, fun _ _ _ => rfl, fun _ _ => rfl, g.wrt, g.own⟩
  have m : Mono ρ I w ρ I { w with drawn := w.drawn + 1 } := ⟨fun _ _ h => h, fun _ _ h => ⟨h, rfl⟩, fun _ h => ⟨h, rfl⟩⟩
  have cd : Conc G ρ I (s.H ++ List.replicate (countAlloc ops) .res) { w with drawn := w.drawn + 1 } := by
    refine ⟨cc.dom, cc.res, cc.blt, cc.inj, fun id cs f h => ?_, fun id cs f h => ?_, cc.imm, fun g c h => ?_⟩
    · obtain ⟨b, el, fr, us, k1, k2, k3, k4⟩ := cc.blk id cs f h
      exact ⟨b, el, fr, us, k1, k2, relL_mono m _ _ k3, k4⟩
    · rcases cc.grow id cs f h with h | ⟨b, el, fr, us, rest, k1, k2, k3, k4⟩
      · exact .inl h
      · exact .inr ⟨b, el, fr, us, rest, k1, k2, relL_mono m _ _ k3, k4⟩
    · obtain ⟨us, k1, k2⟩ := cc.glob g c h
      exact ⟨us, relL_mono m.none _ _ k1, k2⟩
  refine wp_region_any hm ?_
  have hnone : (List.range ops.size).filter (fun i => (Array.replicate ops.size false).getD i false) = [] := by
    rw [List.filter_eq_nil_iff]
    intro i _
    rw [getD_rep]
    simp
  refine wpAny_perm (s0 := ⟨s.t, s.H ++ List.replicate (countAlloc ops) .res⟩) hlen (indep_of h2) (fun k o hk => h4 k o (by simpa using hk)) ops.size (Array.replicate ops.size false) (by simp) (fun j o _ h => by rw [getD_rep] at h; simp at h)
    (Nat.le_trans (List.length_filter_le _ _) (by simp)) ρ I _ a ?_ ?_ ?_
  · rw [hnone]; exact cd
  · rw [hnone]; exact hr.mono m
  · rw [hnone]
    intro ρ' I' s' a' w' hg hC' hR' hs'
    subst hs'
    refine ⟨ρ', I', _, gd.trans hg, hC', hR', ?_⟩
    rw [hlen] at h3
    exact h3

end
end Go.Ab
