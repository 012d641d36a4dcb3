/- The abstract layer, part M: more small laws for the walk. -/
import Derived.Test.YtfjmpdoidkblcaaDoorAbsL
set_option linter.unusedSimpArgs false
set_option linter.unusedVariables false
namespace Go.Ab
open Go

theorem wrap_i64_of {n : Int} (h : -9223372036854775808 ≤ n) (h2 : n ≤ 9223372036854775807) : IntKind.i64.wrap n = n := by
  have := IntKind.wrap_i64 n
  rw [this]
  omega

theorem countAlloc_nil : countAlloc [].toArray = 0 := rfl
theorem countAlloc_cons (o : Oper) (l : List Oper) : countAlloc (o :: l).toArray = (if (isAlloc o.op).isSome then 1 else 0) + countAlloc l.toArray := by
  simp only [countAlloc, List.filter_cons]
  split <;> simp_all [Nat.add_comm]

theorem splice_all_u64s (l l' : List UInt64) (h : l.length = l'.length) : splice (u64s l) 0 (u64s l') = u64s l' := splice_all _ _ (by simp [u64s, h])
theorem splice_all_u32s (l l' : List UInt32) (h : l.length = l'.length) : splice (u32s l) 0 (u32s l') = u32s l' := splice_all _ _ (by simp [u32s, h])
theorem splice_all_u8s (l l' : List UInt8) (h : l.length = l'.length) : splice (u8s l) 0 (u8s l') = u8s l' := splice_all _ _ (by simp [u8s, h])

/-- A row of temporaries of a known length, cell by cell. -/
def etaL : Nat → Nat → List AV → List AV
  | 0, _, _ => []
  | n + 1, i, t => t.getD i .any :: etaL n (i + 1) t
theorem etaL_zero {i : Nat} {t : List AV} : etaL 0 i t = [] := rfl
theorem etaL_succ {n i : Nat} {t : List AV} : etaL (n + 1) i t = t.getD i .any :: etaL n (i + 1) t := rfl
theorem etaL_drop : ∀ (n i : Nat) (t : List AV), t.length = i + n → t.drop i = etaL n i t
  | 0, i, t, h => by rw [etaL_zero, List.drop_eq_nil_of_le (by omega)]
  | n + 1, i, t, h => by
    rw [etaL_succ, ← etaL_drop n (i + 1) t (by omega), List.drop_eq_getElem_cons (by omega)]
    simp [List.getD, show i < t.length by omega]
theorem eta_t {t : List AV} {n : Nat} (h : t.length = n) : t = etaL n 0 t := by
  have := etaL_drop n 0 t (by omega)
  simpa using this

section
variable {P : Program} {G : Glob} {t : List AV} {H : Heap} {K : St → Prop} {ops : Array Oper}
/-- What comes after an operation, as a thing that nothing looks into till its value is known. -/
def kont (P : Program) (G : Glob) (ops : Array Oper) (rest : List Oper) (K : St → Prop) (s : St) : Prop := aops P G ops rest s K
def putK (K : St → Prop) (t : List AV) (d : Option Tmp) (v : AV) (H : Heap) : Prop := K ⟨putA t d v, H⟩
def step1w (P : Program) (G : Glob) (o : Oper) (s : St) (K : St → Prop) : Prop :=
  match aval P G o (evA G s.t) s.H with
  | some (c, v) => c ∧ K ⟨putA s.t o.dst v, s.H⟩
  | none =>
    match aeff P o.op (evA G s.t) s.H with
    | some (c, v, H') => c ∧ K ⟨putA s.t o.dst v, H'⟩
    | none =>
      match acall o.op (evA G s.t) with
      | some (f, args) => GoFn P f ∧ ACall P G f args s.H (putK K s.t o.dst)
      | none => OpS P G o (evA G s.t) s.H (putK K s.t o.dst)
def gstepw (P : Program) (G : Glob) (ops : Array Oper) (o : Oper) (s : St) (K : St → Prop) : Prop :=
  match o.guard with
  | none => step1w P G o s K
  | some (j, want) =>
    match (ops[j]?).bind (·.dst) with
    | none => K ⟨putA s.t o.dst (.tup []), s.H⟩
    | some d =>
      match s.t.getD d .any with
      | .bool b => (b = want → step1w P G o s K) ∧ (b = !want → K ⟨putA s.t o.dst (.tup []), s.H⟩)
      | .tup _ => K ⟨putA s.t o.dst (.tup []), s.H⟩
      | _ => False
theorem step1w_eq {o : Oper} {s : St} : step1 P G o s K = step1w P G o s K := rfl
theorem gstepw_eq {o : Oper} {s : St} : gstep P G ops o s K = gstepw P G ops o s K := rfl
theorem aops_consw {o : Oper} {rest : List Oper} : aops P G ops (o :: rest) ⟨t, H⟩ K = gstepw P G ops o ⟨t, H⟩ (kont P G ops rest K) := rfl
theorem kont_app {rest : List Oper} : kont P G ops rest K ⟨t, H⟩ = aops P G ops rest ⟨t, H⟩ K := rfl
theorem putK_app {d : Option Tmp} {v : AV} : putK K t d v H = K ⟨putA t d v, H⟩ := rfl

variable {k : St → List DEff → Prop} {KE : DEff → Prop} {tr : List DEff} {nid : Nat}
/-- A call within an open order. -/
def callD (P : Program) (G : Glob) (f : FuncId) (args : List AV) (K : AV → Prop) : Prop := ∃ v, FCall P G f args v ∧ K v
theorem callD_of {f : FuncId} {args : List AV} {v : AV} {K : AV → Prop} (h : FCall P G f args v) (k : K v) : callD P G f args K := ⟨v, h, k⟩
def dputK (K : DEff → Prop) (d : Option Tmp) (v : AV) : Prop := K ⟨d, v, none, []⟩
theorem dputK_app {d : Option Tmp} {v : AV} : dputK KE d v = KE ⟨d, v, none, []⟩ := rfl
def dkont (P : Program) (G : Glob) (ops : Array Oper) (rest : List Oper) (nid : Nat) (t : List AV) (H : Heap) (tr : List DEff) (k : St → List DEff → Prop) (e : DEff) : Prop :=
  dops P G ops rest nid (nrm (applyE e ⟨t, H⟩)) (tr ++ [e]) k
theorem dkont_app {rest : List Oper} {d : Option Tmp} {v : AV} {u : Option (Nat × Ent)} {l : List Nat} :
    dkont P G ops rest nid t H tr k ⟨d, v, u, l⟩ = dops P G ops rest nid (nrm (applyE ⟨d, v, u, l⟩ ⟨t, H⟩)) (tr ++ [⟨d, v, u, l⟩]) k := rfl
def dstepw (P : Program) (G : Glob) (nid : Nat) (o : Oper) (s : St) (K : DEff → Prop) : Prop :=
  match aval P G o (evA G s.t) s.H with
  | some (c, v) => c ∧ K ⟨o.dst, v, none, readsOf (evA G s.t) o.op⟩
  | none =>
    match isAlloc o.op with
    | some t => match tzero P t with
      | some z => (known z = true ∧ s.H[nid]? = some .res) ∧ K ⟨o.dst, .ptr nid 0, some (nid, .blk z.cells []), [nid]⟩
      | none => False
    | none =>
      match astore P o.op (evA G s.t) s.H with
      | some (c, id, x) => c ∧ K ⟨o.dst, .tup [], some (id, x), [id]⟩
      | none =>
        match acall o.op (evA G s.t) with
        | some (f, args) => GoFn P f ∧ callD P G f args (dputK K o.dst)
        | none => False
def dgstepw (P : Program) (G : Glob) (ops : Array Oper) (nid : Nat) (o : Oper) (s : St) (K : DEff → Prop) : Prop :=
  match o.guard with
  | none => dstepw P G nid o s K
  | some (j, want) =>
    match (ops[j]?).bind (·.dst) with
    | none => K ⟨o.dst, .tup [], none, []⟩
    | some d =>
      match s.t.getD d .any with
      | .bool b => (b = want → dstepw P G nid o s K) ∧ (b = !want → K ⟨o.dst, .tup [], none, []⟩)
      | .tup _ => K ⟨o.dst, .tup [], none, []⟩
      | _ => False
theorem dops_consw {o : Oper} {rest : List Oper} : dops P G ops (o :: rest) nid ⟨t, H⟩ tr k =
    dgstepw P G ops nid o ⟨t, H⟩ (dkont P G ops rest (if (isAlloc o.op).isSome then nid + 1 else nid) t H tr k) := rfl
end


/- The walk's rewrite rules, as one set. -/
attribute [push_cast] aw_skip aw_label aw_exit aw_goto aw_ret aw_seq aw_block aw_region aw_draw drawn_eq aw_loop condA_true condA_false condA_bool aw_cond thenA_normal thenA_exit
attribute [push_cast] thenA_goto thenA_ret blockA_normal blockA_ret blockA_goto blockA_same blockA_other aops_nil aops_consw kont_app putK_app gstepw step1w aval dops_nil dops_consw
attribute [push_cast] dkont_app dputK_app nrm_mk applyE_none applyE_some dgstepw dstepw readsOf isAlloc evA_tmp evA_const evA_func putA_some putA_none aext_go ofVal_int ofVal_bool
attribute [push_cast] ofVal_string ofVal_nil ofVal_agg ofInt_i64 ofInt_i32 ofInt endO aend_normal aend_ret aresult aresults tupA aval0 abuild afill aplaceE aplace aeff acall astore
attribute [push_cast] AV.toI AV.cells splice_one cellsAt addrAdd aload aPart pickA aIndexAddr aIndex aUn aBoolEq aStr aBin aArith aShift cmpI aCmp cvt aext alen aminmax known oneA
attribute [push_cast] TK.isAgg List.size_toArray length_u8s length_u32s length_u64s getD_u8s getD_u32s getD_u64s all_u8s all_u32s all_u64s take_u8s take_u32s take_u64s drop_u8s
attribute [push_cast] drop_u32s drop_u64s set_u8s set_u32s set_u64s append_u8s append_u32s append_u64s List.length_cons List.length_nil List.length_replicate List.length_set
attribute [push_cast] List.length_append List.getD_cons_zero List.getD_cons_succ List.set_cons_zero List.set_cons_succ List.cons_append List.nil_append List.append_nil
attribute [push_cast] List.getElem?_cons_zero List.getElem?_cons_succ List.replicate List.drop_zero List.take_zero List.drop_succ_cons List.take_succ_cons List.all_cons List.all_nil
attribute [push_cast] List.map_cons List.map_nil Option.map_some Option.map_none Option.isSome_some Option.isSome_none Option.bind_some and_true true_and and_self if_true if_false
attribute [push_cast] Bool.false_eq_true Nat.zero_add Nat.add_zero Nat.zero_mul Nat.mul_one Bool.and_true Bool.true_and Bool.not_true Bool.not_false decide_true decide_false or_true
attribute [push_cast] true_or or_false false_or implies_true ne_eq not_true_eq_false not_false_eq_true List.not_mem_nil false_implies and_false false_and Int.toNat_zero
attribute [push_cast] Int.toNat_one beq_self_eq_true Option.some.injEq true_implies Int.cast_ofNat_Int borrow64_le carry64_le Int.toNat_natCast wrap_i64_of countAlloc_nil
attribute [push_cast] countAlloc_cons splice_all_u64s splice_all_u32s splice_all_u8s List.replicate_zero eq_self etaL_zero etaL_succ bne_self_eq_false List.getElem?_toArray
attribute [push_cast] Option.bind cond_true cond_false aAggEq aeqT rowShort aeqK aeqFs aeqIs
end Go.Ab
