/- The abstract layer, part L: the walk's rewrite rules. Each fires only where the state is written out, so that what comes later is left alone. -/
import Derived.Test.YtfjmpdoidkblcaaDoorAbsK
set_option linter.unusedSimpArgs false
set_option linter.unusedVariables false
namespace Go.Ab
open Go

/-- A state that is still to be written out. -/
def nrm (s : St) : St := s

section
variable {P : Program} {G : Glob} {t : List AV} {H : Heap} {Q : Exit → St → Prop} {K : St → Prop} {ops : Array Oper}

theorem nrm_mk : nrm ⟨t, H⟩ = ⟨t, H⟩ := rfl

theorem aw_skip : aw P G .skip Q ⟨t, H⟩ = Q .normal ⟨t, H⟩ := rfl
theorem aw_label {l : Nat} : aw P G (.label l) Q ⟨t, H⟩ = Q .normal ⟨t, H⟩ := rfl
theorem aw_exit {id : Nat} : aw P G (.exit id) Q ⟨t, H⟩ = Q (.exit id) ⟨t, H⟩ := rfl
theorem aw_goto {l : Nat} : aw P G (.goto l) Q ⟨t, H⟩ = Q (.goto l) ⟨t, H⟩ := rfl
theorem aw_ret : aw P G .ret Q ⟨t, H⟩ = Q .ret ⟨t, H⟩ := rfl
theorem aw_seq {x y : Code} : aw P G (.seq x y) Q ⟨t, H⟩ = aw P G x (thenA (aw P G y Q) Q) ⟨t, H⟩ := rfl
theorem aw_block {id : Nat} {c : Code} : aw P G (.block id c) Q ⟨t, H⟩ = aw P G c (blockA id Q) ⟨t, H⟩ := rfl
theorem aw_region {id : Nat} {l : List Oper} : aw P G (.region id l.toArray false) Q ⟨t, H⟩ = aops P G l.toArray l ⟨t, H⟩ (Q .normal) := rfl
/-- What is left behind a statement whose order is open. -/
def drawn (ops : Array Oper) (Q : Exit → St → Prop) (s : St) (tr : List DEff) : Prop := indepB ops tr = true ∧ Q .normal s
theorem aw_draw {id : Nat} {l : List Oper} : aw P G (.region id l.toArray true) Q ⟨t, H⟩ =
    (P.follows .mixedOrders = true ∧ dops P G l.toArray l H.length (nrm ⟨t, H ++ List.replicate (countAlloc l.toArray) .res⟩) [] (drawn l.toArray Q)) := rfl
theorem drawn_eq {tr : List DEff} : drawn ops Q ⟨t, H⟩ tr = (indepB ops tr = true ∧ Q .normal ⟨t, H⟩) := rfl
theorem aw_loop {c : Code} : aw P G (.loop c) Q ⟨t, H⟩ = Tri P G (.loop c) Q ⟨t, H⟩ := rfl
/-- A condition that is a Bool: each way for itself. -/
def condA (v : AV) (x y : Prop) : Prop := ∃ b, v = .bool b ∧ (b = true → x) ∧ (b = false → y)
theorem condA_bool {b : Bool} {x y : Prop} : condA (.bool b) x y = ((b = true → x) ∧ (b = false → y)) := by
  simp [condA]
theorem condA_true {x y : Prop} : condA (.bool true) x y = x := by simp [condA]
theorem condA_false {x y : Prop} : condA (.bool false) x y = y := by simp [condA]
theorem aw_cond {c : Operand} {x y : Code} : aw P G (.cond c x y) Q ⟨t, H⟩ = condA (evA G t c) (aw P G x Q ⟨t, H⟩) (aw P G y Q ⟨t, H⟩) := rfl

theorem thenA_normal {k : St → Prop} {s : St} : thenA k Q .normal s = k s := rfl
theorem thenA_exit {k : St → Prop} {id : Nat} {s : St} : thenA k Q (.exit id) s = Q (.exit id) s := rfl
theorem thenA_goto {k : St → Prop} {id : Nat} {s : St} : thenA k Q (.goto id) s = Q (.goto id) s := rfl
theorem thenA_ret {k : St → Prop} {s : St} : thenA k Q .ret s = Q .ret s := rfl
theorem blockA_normal {id : Nat} {s : St} : blockA id Q .normal s = Q .normal s := rfl
theorem blockA_ret {id : Nat} {s : St} : blockA id Q .ret s = Q .ret s := rfl
theorem blockA_goto {id l : Nat} {s : St} : blockA id Q (.goto l) s = Q (.goto l) s := rfl
theorem blockA_same {id : Nat} {s : St} : blockA id Q (.exit id) s = Q .normal s := by simp [blockA]
theorem blockA_other {id i : Nat} {s : St} (h : (i == id) = false) : blockA id Q (.exit i) s = Q (.exit i) s := by
  have : i ≠ id := by simpa using h
  simp [blockA, this]

theorem aops_nil {s : St} : aops P G ops [] s K = K s := rfl
theorem aops_cons {o : Oper} {rest : List Oper} : aops P G ops (o :: rest) ⟨t, H⟩ K = gstep P G ops o ⟨t, H⟩ fun s' => aops P G ops rest s' K := rfl

theorem gstep_plain {d : Option Tmp} {op : Op} {ty : TypeId} {pos : String} {after : Array Edge} : gstep P G ops ⟨d, op, ty, pos, after, none⟩ ⟨t, H⟩ K = step1 P G ⟨d, op, ty, pos, after, none⟩ ⟨t, H⟩ K := rfl

def guardA (v : AV) (want : Bool) (x y : Prop) : Prop := match v with
  | .bool b => (b = want → x) ∧ (b = !want → y)
  | .tup _ => y
  | _ => False
theorem guardA_tt {x y : Prop} : guardA (.bool true) true x y = x := by simp [guardA]
theorem guardA_ff {x y : Prop} : guardA (.bool false) false x y = x := by simp [guardA]
theorem guardA_tf {x y : Prop} : guardA (.bool true) false x y = y := by simp [guardA]
theorem guardA_ft {x y : Prop} : guardA (.bool false) true x y = y := by simp [guardA]
theorem guardA_tup {l : List AV} {w : Bool} {x y : Prop} : guardA (.tup l) w x y = y := rfl
theorem guardA_t {b : Bool} {x y : Prop} : guardA (.bool b) true x y = ((b = true → x) ∧ (b = false → y)) := rfl
theorem guardA_f {b : Bool} {x y : Prop} : guardA (.bool b) false x y = ((b = false → x) ∧ (b = true → y)) := rfl

/-- The value that a guard asks. -/
def guardV (ops : Array Oper) (j : Nat) (t : List AV) : AV := match (ops[j]?).bind (·.dst) with
  | some d => t.getD d .any
  | none => .tup []

theorem gstep_guard {d : Option Tmp} {op : Op} {ty : TypeId} {pos : String} {after : Array Edge} {j : Nat} {want : Bool} :
    gstep P G ops ⟨d, op, ty, pos, after, some (j, want)⟩ ⟨t, H⟩ K = guardA (guardV ops j t) want (step1 P G ⟨d, op, ty, pos, after, some (j, want)⟩ ⟨t, H⟩ K) (K (nrm ⟨putA t d (.tup []), H⟩)) := by
  unfold gstep guardV nrm
  simp only
  cases (ops[j]?).bind (·.dst) with
  | none => rfl
  | some g =>
    simp only
    cases t.getD g .any <;> rfl

/-- What follows a value, an effect, a call; and what if there is none. -/
def valO (r : Option (Prop × AV)) (k : AV → Prop) (f : Prop) : Prop := match r with
  | some (c, v) => c ∧ k v
  | none => f
theorem valO_some {c : Prop} {v : AV} {k : AV → Prop} {f : Prop} : valO (some (c, v)) k f = (c ∧ k v) := rfl
theorem valO_true {v : AV} {k : AV → Prop} {f : Prop} : valO (some (True, v)) k f = k v := by simp [valO]
theorem valO_none {k : AV → Prop} {f : Prop} : valO none k f = f := rfl
def effO (r : Option (Prop × AV × Heap)) (k : AV → Heap → Prop) (f : Prop) : Prop := match r with
  | some (c, v, H') => c ∧ k v H'
  | none => f
theorem effO_some {c : Prop} {v : AV} {H' : Heap} {k : AV → Heap → Prop} {f : Prop} : effO (some (c, v, H')) k f = (c ∧ k v H') := rfl
theorem effO_none {k : AV → Heap → Prop} {f : Prop} : effO none k f = f := rfl
def callO (r : Option (FuncId × List AV)) (k : FuncId → List AV → Prop) (f : Prop) : Prop := match r with
  | some (g, l) => k g l
  | none => f
theorem callO_some {g : FuncId} {l : List AV} {k : FuncId → List AV → Prop} {f : Prop} : callO (some (g, l)) k f = k g l := rfl
theorem callO_none {k : FuncId → List AV → Prop} {f : Prop} : callO none k f = f := rfl

def step3 (P : Program) (G : Glob) (o : Oper) (s : St) (K : St → Prop) : Prop :=
  callO (acall o.op (evA G s.t)) (fun f args => GoFn P f ∧ ACall P G f args s.H fun v H' => K (nrm ⟨putA s.t o.dst v, H'⟩)) (OpS P G o (evA G s.t) s.H fun v H' => K (nrm ⟨putA s.t o.dst v, H'⟩))
def step2 (P : Program) (G : Glob) (o : Oper) (s : St) (K : St → Prop) : Prop :=
  effO (aeff P o.op (evA G s.t) s.H) (fun v H' => K (nrm ⟨putA s.t o.dst v, H'⟩)) (step3 P G o s K)

section step
variable {d : Option Tmp} {op : Op} {ty : TypeId} {pos : String} {after : Array Edge} {g : Option (Nat × Bool)}
theorem step1_eq : step1 P G ⟨d, op, ty, pos, after, g⟩ ⟨t, H⟩ K = valO (aval0 P G.x op (evA G t) H) (fun v => K (nrm ⟨putA t d v, H⟩)) (step2 P G ⟨d, op, ty, pos, after, g⟩ ⟨t, H⟩ K) := by
  unfold step1 valO aval step2 effO step3 callO nrm
  simp only
  cases aval0 P G.x op (evA G t) H with
  | some p => rfl
  | none =>
    cases aeff P op (evA G t) H with
    | some p => rfl
    | none =>
      cases acall op (evA G t) <;> rfl
theorem step2_eq : step2 P G ⟨d, op, ty, pos, after, g⟩ ⟨t, H⟩ K = effO (aeff P op (evA G t) H) (fun v H' => K (nrm ⟨putA t d v, H'⟩)) (step3 P G ⟨d, op, ty, pos, after, g⟩ ⟨t, H⟩ K) := rfl
theorem step3_eq : step3 P G ⟨d, op, ty, pos, after, g⟩ ⟨t, H⟩ K = callO (acall op (evA G t)) (fun f args => GoFn P f ∧ ACall P G f args H fun v H' => K (nrm ⟨putA t d v, H'⟩)) (OpS P G ⟨d, op, ty, pos, after, g⟩ (evA G t) H fun v H' => K (nrm ⟨putA t d v, H'⟩)) := rfl
end step

section draw
variable {k : St → List DEff → Prop} {KE : DEff → Prop} {tr : List DEff} {nid : Nat}
theorem dops_nil {s : St} : dops P G ops [] nid s tr k = k s tr := rfl
theorem dops_cons {o : Oper} {rest : List Oper} : dops P G ops (o :: rest) nid ⟨t, H⟩ tr k =
    dgstep P G ops nid o ⟨t, H⟩ fun e => dops P G ops rest (if (isAlloc o.op).isSome then nid + 1 else nid) (nrm (applyE e ⟨t, H⟩)) (tr ++ [e]) k := rfl
theorem applyE_none {d : Option Tmp} {v : AV} {rs : List Nat} : applyE ⟨d, v, none, rs⟩ ⟨t, H⟩ = ⟨putA t d v, H⟩ := rfl
theorem applyE_some {d : Option Tmp} {v : AV} {id : Nat} {x : Ent} {rs : List Nat} : applyE ⟨d, v, some (id, x), rs⟩ ⟨t, H⟩ = ⟨putA t d v, H.set id x⟩ := rfl
variable {d : Option Tmp} {op : Op} {ty : TypeId} {pos : String} {after : Array Edge} {g : Option (Nat × Bool)}
theorem dgstep_plain : dgstep P G ops nid ⟨d, op, ty, pos, after, none⟩ ⟨t, H⟩ KE = dstep P G nid ⟨d, op, ty, pos, after, none⟩ ⟨t, H⟩ KE := rfl
theorem dgstep_guard {j : Nat} {want : Bool} :
    dgstep P G ops nid ⟨d, op, ty, pos, after, some (j, want)⟩ ⟨t, H⟩ KE = guardA (guardV ops j t) want (dstep P G nid ⟨d, op, ty, pos, after, some (j, want)⟩ ⟨t, H⟩ KE) (KE ⟨d, .tup [], none, []⟩) := by
  unfold dgstep guardV
  simp only
  cases (ops[j]?).bind (·.dst) with
  | none => rfl
  | some g =>
    simp only
    cases t.getD g .any <;> rfl

def allocO (r : Option TypeId) (k : TypeId → Prop) (f : Prop) : Prop := match r with
  | some x => k x
  | none => f
theorem allocO_some {x : TypeId} {k : TypeId → Prop} {f : Prop} : allocO (some x) k f = k x := rfl
theorem allocO_none {k : TypeId → Prop} {f : Prop} : allocO none k f = f := rfl
def zeroO (r : Option AV) (k : AV → Prop) : Prop := match r with
  | some x => k x
  | none => False
theorem zeroO_some {x : AV} {k : AV → Prop} : zeroO (some x) k = k x := rfl
def storeO (r : Option (Prop × Nat × Ent)) (k : Nat → Ent → Prop) (f : Prop) : Prop := match r with
  | some (c, id, x) => c ∧ k id x
  | none => f
theorem storeO_some {c : Prop} {id : Nat} {x : Ent} {k : Nat → Ent → Prop} {f : Prop} : storeO (some (c, id, x)) k f = (c ∧ k id x) := rfl
theorem storeO_none {k : Nat → Ent → Prop} {f : Prop} : storeO none k f = f := rfl

def dstep4 (P : Program) (G : Glob) (o : Oper) (s : St) (K : DEff → Prop) : Prop :=
  callO (acall o.op (evA G s.t)) (fun f args => GoFn P f ∧ ∃ v, FCall P G f args v ∧ K ⟨o.dst, v, none, []⟩) False
def dstep3 (P : Program) (G : Glob) (o : Oper) (s : St) (K : DEff → Prop) : Prop :=
  storeO (astore P o.op (evA G s.t) s.H) (fun id x => K ⟨o.dst, .tup [], some (id, x), [id]⟩) (dstep4 P G o s K)
def dstep2 (P : Program) (G : Glob) (nid : Nat) (o : Oper) (s : St) (K : DEff → Prop) : Prop :=
  allocO (isAlloc o.op) (fun T => zeroO (tzero P T) fun z => (known z = true ∧ s.H[nid]? = some .res) ∧ K ⟨o.dst, .ptr nid 0, some (nid, .blk z.cells []), [nid]⟩) (dstep3 P G o s K)
theorem dstep_eq : dstep P G nid ⟨d, op, ty, pos, after, g⟩ ⟨t, H⟩ KE = valO (aval0 P G.x op (evA G t) H) (fun v => KE ⟨d, v, none, readsOf (evA G t) op⟩) (dstep2 P G nid ⟨d, op, ty, pos, after, g⟩ ⟨t, H⟩ KE) := by
  unfold dstep valO aval dstep2 allocO zeroO dstep3 storeO dstep4 callO
  simp only
  cases aval0 P G.x op (evA G t) H with
  | some p => rfl
  | none =>
    cases isAlloc op with
    | some p => rfl
    | none =>
      cases astore P op (evA G t) H with
      | some p => rfl
      | none =>
        cases acall op (evA G t) <;> rfl
theorem dstep2_eq : dstep2 P G nid ⟨d, op, ty, pos, after, g⟩ ⟨t, H⟩ KE =
    allocO (isAlloc op) (fun T => zeroO (tzero P T) fun z => (known z = true ∧ H[nid]? = some .res) ∧ KE ⟨d, .ptr nid 0, some (nid, .blk z.cells []), [nid]⟩) (dstep3 P G ⟨d, op, ty, pos, after, g⟩ ⟨t, H⟩ KE) := rfl
theorem dstep3_eq : dstep3 P G ⟨d, op, ty, pos, after, g⟩ ⟨t, H⟩ KE =
    storeO (astore P op (evA G t) H) (fun id x => KE ⟨d, .tup [], some (id, x), [id]⟩) (dstep4 P G ⟨d, op, ty, pos, after, g⟩ ⟨t, H⟩ KE) := rfl
theorem dstep4_eq : dstep4 P G ⟨d, op, ty, pos, after, g⟩ ⟨t, H⟩ KE =
    callO (acall op (evA G t)) (fun f args => GoFn P f ∧ ∃ v, FCall P G f args v ∧ KE ⟨d, v, none, []⟩) False := rfl
end draw

theorem evA_tmp {i : Nat} : evA G t (.tmp i) = t.getD i .any := rfl
theorem evA_const {v : Value} : evA G t (.const v) = ofVal v := rfl
theorem evA_func {f : Nat} : evA G t (.func f) = .fn (.func f) [] [] := rfl
theorem evA_global {g : Nat} {c : List AV} (h : G.g g = some c) : evA G t (.global g) = .vp c 0 := by simp [evA, h]
theorem putA_some {d : Nat} {v : AV} : putA t (some d) v = t.set d v := rfl
theorem putA_none {v : AV} : putA t none v = t := rfl
theorem aext_go {f : Nat} {args : List AV} : aext P .go f args = none := rfl

theorem ofVal_int {k : IntKind} {n : Int} : ofVal (.int k n) = ofInt k n := rfl
theorem ofVal_bool {b : Bool} : ofVal (.bool b) = .bool b := rfl
theorem ofVal_string {s : ByteArray} : ofVal (.string s) = .str s.data.toList := rfl
theorem ofVal_nil : ofVal (.slice none 0 0) = .vec true 0 [] := rfl
theorem ofVal_agg {cs : Array Value} : ofVal (.agg cs) = .agg (cs.toList.map ofVal1) := rfl
theorem ofInt_i64 {n : Int} : ofInt .i64 n = .int .i64 n := rfl
theorem ofInt_i32 {n : Int} : ofInt .i32 n = .int .i32 n := rfl

-- where the walk's simp looks, and where it does not
theorem aw_congr {c : Code} {s s' : St} (h : s = s') : aw P G c Q s = aw P G c Q s' := by rw [h]
theorem aops_congr {l : List Oper} {s s' : St} (h : s = s') : aops P G ops l s K = aops P G ops l s' K := by rw [h]
theorem dops_congr {l : List Oper} {n n' : Nat} {s s' : St} {tr : List DEff} {k : St → List DEff → Prop} (hn : n = n') (h : s = s') : dops P G ops l n s tr k = dops P G ops l n' s' tr k := by rw [h, hn]
theorem gstep_congr {o : Oper} {s s' : St} (h : s = s') : gstep P G ops o s K = gstep P G ops o s' K := by rw [h]
theorem step1_congr {o : Oper} {s s' : St} (h : s = s') : step1 P G o s K = step1 P G o s' K := by rw [h]
theorem step2_congr {o : Oper} {s s' : St} (h : s = s') : step2 P G o s K = step2 P G o s' K := by rw [h]
theorem step3_congr {o : Oper} {s s' : St} (h : s = s') : step3 P G o s K = step3 P G o s' K := by rw [h]
theorem thenA_congr {k : St → Prop} {e : Exit} {s s' : St} (h : s = s') : thenA k Q e s = thenA k Q e s' := by rw [h]
theorem blockA_congr {id : Nat} {e : Exit} {s s' : St} (h : s = s') : blockA id Q e s = blockA id Q e s' := by rw [h]
theorem valO_congr {r r' : Option (Prop × AV)} {k : AV → Prop} {f : Prop} (h : r = r') : valO r k f = valO r' k f := by rw [h]
theorem effO_congr {r r' : Option (Prop × AV × Heap)} {k : AV → Heap → Prop} {f : Prop} (h : r = r') : effO r k f = effO r' k f := by rw [h]
theorem callO_congr {r r' : Option (FuncId × List AV)} {k : FuncId → List AV → Prop} {f : Prop} (h : r = r') : callO r k f = callO r' k f := by rw [h]
theorem allocO_congr {r r' : Option TypeId} {k : TypeId → Prop} {f : Prop} (h : r = r') : allocO r k f = allocO r' k f := by rw [h]
theorem zeroO_congr {r r' : Option AV} {k : AV → Prop} (h : r = r') : zeroO r k = zeroO r' k := by rw [h]
theorem storeO_congr {r r' : Option (Prop × Nat × Ent)} {k : Nat → Ent → Prop} {f : Prop} (h : r = r') : storeO r k f = storeO r' k f := by rw [h]
theorem condA_congr {v v' : AV} {x y : Prop} (h : v = v') : condA v x y = condA v' x y := by rw [h]
theorem guardA_congr {v v' : AV} {w : Bool} {x y : Prop} (h : v = v') : guardA v w x y = guardA v' w x y := by rw [h]
theorem dgstep_congr {n : Nat} {o : Oper} {s s' : St} {KE : DEff → Prop} (h : s = s') : dgstep P G ops n o s KE = dgstep P G ops n o s' KE := by rw [h]
theorem dstep_congr {n : Nat} {o : Oper} {s s' : St} {KE : DEff → Prop} (h : s = s') : dstep P G n o s KE = dstep P G n o s' KE := by rw [h]
theorem dstep2_congr {n : Nat} {o : Oper} {s s' : St} {KE : DEff → Prop} (h : s = s') : dstep2 P G n o s KE = dstep2 P G n o s' KE := by rw [h]
theorem dstep3_congr {o : Oper} {s s' : St} {KE : DEff → Prop} (h : s = s') : dstep3 P G o s KE = dstep3 P G o s' KE := by rw [h]
theorem dstep4_congr {o : Oper} {s s' : St} {KE : DEff → Prop} (h : s = s') : dstep4 P G o s KE = dstep4 P G o s' KE := by rw [h]
theorem drawn_congr {s s' : St} {tr : List DEff} (h : s = s') : drawn ops Q s tr = drawn ops Q s' tr := by rw [h]
theorem Tri_congr {c : Code} {s s' : St} (h : s = s') : Tri P G c Q s = Tri P G c Q s' := by rw [h]
theorem awR_congr {c : Code} {n : Nat} {s s' : St} (h : s = s') : awR P G c Q n s = awR P G c Q n s' := by rw [h]
theorem ACall_congr {f : FuncId} {args args' : List AV} {H H' : Heap} {R : AV → Heap → Prop} (h : args = args') (hH : H = H') : ACall P G f args H R = ACall P G f args' H' R := by rw [h, hH]
theorem indepB_congr {tr : List DEff} : indepB ops tr = indepB ops tr := rfl
theorem aend_congr {fn : Func} {R : AV → Heap → Prop} {e : Exit} {s s' : St} (h : s = s') : aend P fn R e s = aend P fn R e s' := by rw [h]

theorem awR_succ {c : Code} {n : Nat} : awR P G c Q (n + 1) ⟨t, H⟩ = aw P G c (thenA (awR P G c Q n) Q) ⟨t, H⟩ := rfl

/-- What stands in the results. -/
def endO (r : Option (Prop × List AV)) (k : AV → Prop) : Prop := match r with
  | some (c, l) => c ∧ k (tupA l)
  | none => False
theorem endO_some {c : Prop} {l : List AV} {k : AV → Prop} : endO (some (c, l)) k = (c ∧ k (tupA l)) := rfl
theorem endO_congr {r r' : Option (Prop × List AV)} {k : AV → Prop} (h : r = r') : endO r k = endO r' k := by rw [h]
theorem aend_normal {fn : Func} {R : AV → Heap → Prop} : aend P fn R .normal ⟨t, H⟩ = endO (aresults P ⟨t, H⟩ fn.results.toList) fun v => R v H := by
  unfold aend endO
  apply propext
  constructor
  · rintro ⟨_, c, l, h, hc, hr⟩; rw [h]; exact ⟨hc, hr⟩
  · intro h
    split at h
    · rename_i c l hh; exact ⟨.inl rfl, c, l, hh, h.1, h.2⟩
    · exact h.elim
theorem aend_ret {fn : Func} {R : AV → Heap → Prop} : aend P fn R .ret ⟨t, H⟩ = endO (aresults P ⟨t, H⟩ fn.results.toList) fun v => R v H := by
  unfold aend endO
  apply propext
  constructor
  · rintro ⟨_, c, l, h, hc, hr⟩; rw [h]; exact ⟨hc, hr⟩
  · intro h
    split at h
    · rename_i c l hh; exact ⟨.inr rfl, c, l, hh, h.1, h.2⟩
    · exact h.elim
end

end Go.Ab
