/-
  Rules for regions whose order is open.
-/
import Derived.Test.YtnicmcdnpeimoaaDoorAm18
set_option linter.unusedVariables false
set_option linter.unusedSimpArgs false
namespace Go.Am

abbrev Tce := List (List V × Hp × Bool × V)

section
variable {R : Type}
def db (x : Option (Bool × V × Hp)) (k : Bool → V → Hp → Option R) : Option R := match x with | some (b, v, H) => k b v H | none => none
theorem db_first {x y : Option (Bool × V × Hp)} {k : Bool → V → Hp → Option R} (h : x = y) : db x k = db y k := by rw [h]
theorem db_some (b : Bool) (v : V) (H : Hp) (k : Bool → V → Hp → Option R) : db (some (b, v, H)) k = k b v H := Eq.trans rfl rfl
def gw (ops : List Oper) (ρ : List V) : Option (Nat × Bool) → Option Bool
  | none => some true
  | some (j, w) => wd ρ w (gdl ops j)
theorem gw_none (ops : List Oper) (ρ : List V) : gw ops ρ none = some true := Eq.trans rfl rfl
theorem gw_some (ops : List Oper) (ρ : List V) (j : Nat) (w : Bool) : gw ops ρ (some (j, w)) = wd ρ w (gdl ops j) := Eq.trans rfl rfl

/-- The operations of a region in the order of the text, with what was there before each, then k. -/
abbrev DrS (R : Type) : Type := { g : Program → Caller → List Oper → List Oper → List V → Hp → Tce → (Tce → List V → Hp → Option R) → Option R // ∀ P call ops l ρ H tr k, g P call ops l ρ H tr k =
  match adr P call ops l ρ H with
  | some (tr', ρ', H') => k (tr ++ tr') ρ' H'
  | none => none }
theorem drS_ne (R : Type) : Nonempty (DrS R) := ⟨⟨fun P call ops l ρ H tr k =>
  match adr P call ops l ρ H with
  | some (tr', ρ', H') => k (tr ++ tr') ρ' H'
  | none => none, fun _ _ _ _ _ _ _ _ => rfl⟩⟩
noncomputable def dr (P : Program) (call : Caller) (ops l : List Oper) (ρ : List V) (H : Hp) (tr : Tce) (k : Tce → List V → Hp → Option R) : Option R := (Classical.choice (drS_ne R)).1 P call ops l ρ H tr k
theorem dr_def (P : Program) (call : Caller) (ops l : List Oper) (ρ : List V) (H : Hp) (tr : Tce) (k : Tce → List V → Hp → Option R) : dr P call ops l ρ H tr k =
  match adr P call ops l ρ H with
  | some (tr', ρ', H') => k (tr ++ tr') ρ' H'
  | none => none := (Classical.choice (drS_ne R)).2 ..
theorem dr_nil (P : Program) (call : Caller) (ops : List Oper) (ρ : List V) (H : Hp) (tr : Tce) (k : Tce → List V → Hp → Option R) : dr P call ops [] ρ H tr k = k tr ρ H := by
  simp [dr_def, adr]
theorem gw_wanted (ops : List Oper) (ρ : List V) (o : Oper) : wanted ops.toArray ρ o = gw ops ρ o.guard := by
  cases h : o.guard with
  | none => simp [wanted, h, gw]
  | some p =>
    obtain ⟨j, w⟩ := p
    simp only [wanted, h, gw, gdl_eq]
    cases gdl ops j with
    | none => rfl
    | some d =>
      simp only [wd]
      cases ρ[d]? with
      | none => rfl
      | some v => rfl
theorem dr_cons (P : Program) (call : Caller) (ops : List Oper) (d : Option Tmp) (op : Op) (ty : TypeId) (ps : String) (af : Array Edge) (g : Option (Nat × Bool)) (l : List Oper) (ρ : List V) (H : Hp) (tr : Tce) (k : Tce → List V → Hp → Option R) :
    dr P call ops (⟨d, op, ty, ps, af, g⟩ :: l) ρ H tr k =
      db (gb (gw ops ρ g) (vb (astep P call ρ H op) fun v H' => some (true, v, H')) (some (false, undefV, H))) fun b v H' => fo (put ρ d v) fun ρ' => dr P call ops l ρ' H' (tr ++ [(ρ, H, b, v)]) k := by
  simp only [dr_def]
  simp only [adr, gstep, gw_wanted]
  cases gw ops ρ g with
  | none => rfl
  | some b =>
    cases b with
    | false =>
      simp only [Option.bind_some, Bool.false_eq_true, if_false, gb, db, fo]
      cases adr P call ops l (put ρ d undefV) H with
      | none => rfl
      | some x => simp
    | true =>
      simp only [Option.bind_some, if_true, gb]
      cases astep P call ρ H op with
      | none => rfl
      | some x =>
        obtain ⟨v, H'⟩ := x
        simp only [Option.bind_some, vb, db, fo]
        cases adr P call ops l (put ρ d v) H' with
        | none => rfl
        | some x => simp

/-- Which reads may come up at which points of the run. -/
def pairsOf (ops : List Oper) : List (Nat × Nat) :=
  let m := masks ops []
  ops.zipIdx.flatMap fun (o, i) => if opKind o.op == 1 then ((List.range (ops.length + 1)).filter fun j => (decide (j = 0) || impAt ops (j - 1)) && mayAt ops m i j).map fun j => (i, j) else []
def ck1 (P : Program) (e : Option (List V × Hp × Bool × V)) (H : Hp) (o : Op) : Bool := match e with | some (ρ, _, b, v) => !b || sameRead P ρ H o v | none => true
def ck0 (P : Program) (o : Option Oper) (e : Option (List V × Hp × Bool × V)) (H : Hp) : Bool := match o with | some o => ck1 P e H o.op | none => true
def ckall (P : Program) (ops : List Oper) (ps : List (Nat × Nat)) (tr : Tce) (HN : Hp) : Bool := ps.all fun x => ck0 P ops[x.1]? tr[x.1]? (heapAt tr HN x.2)
theorem stable_ck (P : Program) (ops : List Oper) (tr : Tce) (HN : Hp) : stable P ops tr HN = ckall P ops (pairsOf ops) tr HN := by
  unfold stable ckall pairsOf
  rw [Bool.eq_iff_iff, List.all_eq_true, List.all_eq_true]
  constructor
  · intro h x hx
    obtain ⟨⟨o, i⟩, h1, h2⟩ := List.mem_flatMap.1 hx
    dsimp only at h2
    split at h2
    · rename_i hk
      obtain ⟨j, h3, rfl⟩ := List.mem_map.1 h2
      obtain ⟨h4, h5⟩ := List.mem_filter.1 h3
      dsimp only
      rw [show ops[i]? = some o by rw [List.mem_zipIdx_iff_getElem?] at h1; exact h1]
      simp only [ck0]
      cases ht : tr[i]? with
      | none => rfl
      | some e =>
        obtain ⟨ρ, H0, b, v⟩ := e
        have ho : ops[i]? = some o := by
          rw [List.mem_zipIdx_iff_getElem?] at h1; exact h1
        have hm : ((o, i), (ρ, H0, b, v)) ∈ ops.zipIdx.zip tr := by
          rw [List.mem_iff_getElem?]
          refine ⟨i, ?_⟩
          rw [List.getElem?_zip_eq_some]
          refine ⟨?_, ht⟩
          rw [List.getElem?_zipIdx, ho]; simp
        have := h _ hm
        simp only [hk, Bool.not_true, Bool.false_or, Bool.or_eq_true, List.all_eq_true] at this
        simp only [ck1]
        rcases this with h6 | h6
        · rw [h6]; rfl
        · have := h6 j h4
          simp only [Bool.and_eq_true] at h5
          simp only [h5.1, h5.2, Bool.not_true, Bool.false_eq_true, false_or] at this
          rw [this]; simp
    · cases h2
  · intro h x hx
    obtain ⟨⟨o, i⟩, ρ, H0, b, v⟩ := x
    obtain ⟨k, hk⟩ := List.mem_iff_getElem?.1 hx
    rw [List.getElem?_zip_eq_some] at hk
    obtain ⟨h1, ht⟩ := hk
    rw [List.getElem?_zipIdx] at h1
    cases ho : ops[k]? with
    | none => rw [ho] at h1; cases h1
    | some o' =>
      rw [ho] at h1
      simp only [Option.map_some, Option.some.injEq, Prod.mk.injEq, Nat.zero_add] at h1
      obtain ⟨rfl, rfl⟩ := h1
      dsimp only
      by_cases hk : (opKind o'.op == 1) = true
      · simp only [hk, Bool.not_true, Bool.false_or]
        cases b with
        | false => rfl
        | true =>
          simp only [Bool.not_true, Bool.false_or, List.all_eq_true]
          intro j hj
          by_cases c1 : (decide (j = 0) || impAt ops (j - 1)) = true
          · by_cases c2 : mayAt ops (masks ops []) k j = true
            · have := h (k, j) (List.mem_flatMap.2 ⟨(o', k), by rw [List.mem_zipIdx_iff_getElem?]; exact ho, by
                simp only [hk, if_true]
                exact List.mem_map.2 ⟨j, List.mem_filter.2 ⟨hj, by rw [c1, c2]; rfl⟩, rfl⟩⟩)
              dsimp only at this
              rw [ht, ho] at this
              simp only [ck0, ck1, Bool.not_true, Bool.false_or] at this
              rw [this]; simp
            · simp only [Bool.not_eq_true] at c2; rw [c2]; simp
          · simp only [Bool.not_eq_true] at c1; rw [c1]; simp
      · simp only [Bool.not_eq_true] at hk; rw [hk]; simp

theorem g_open (C : Ctx) (f : FuncId) (ρ : List V) (H : Hp) (k : Ex → List V → Hp → Option R) (id : Nat) (l : List Oper) (hok : drawOk l = true) :
    go C f (.region id l.toArray true) ρ H k = dr C.P (callL C) l l ρ H [] fun tr ρ' H' => gb (some (ckall C.P l (pairsOf l) tr H')) (fo (kill ρ' (C.K f id)) fun ρ'' => k .norm ρ'' H') none := by
  rw [g_draw]
  simp only [dr_def]
  unfold adraw
  rw [if_pos hok]
  cases adr C.P (callL C) l l ρ H with
  | none => rfl
  | some x =>
    obtain ⟨tr, ρ', H'⟩ := x
    simp only [Option.bind_some, List.nil_append, stable_ck]
    cases ckall C.P l (pairsOf l) tr H' <;> rfl
end

section
variable (P : Program) (call : Caller) (ρ : List V) (H : Hp) (x y : Operand)
theorem as_move : astep P call ρ H (.move x) = some (ev ρ x, H) := Eq.trans rfl rfl
theorem as_assign : astep P call ρ H (.assign x) = some (ev ρ x, H) := Eq.trans rfl rfl
theorem as_bin (op : BinOp) (t t' : TypeId) : astep P call ρ H (.binOp op t x y t') = (vbin P H op t (constOp x || constOp y) (ev ρ x) (ev ρ y)).map (·, H) := Eq.trans rfl rfl
theorem as_un (op : UnOp) (t : TypeId) : astep P call ρ H (.unOp op t x) = (vun op (ev ρ x)).map (·, H) := Eq.trans rfl rfl
theorem as_conv (s t : TypeId) : astep P call ρ H (.convert s t x) = (vconv P H s t (ev ρ x)).map (·, H) := Eq.trans rfl rfl
theorem ao_load (t : TypeId) : aop P ρ H (.load t x) = (vload P H t (ev ρ x)).map (·, H) := by
  simp only [aop]; cases ev ρ x <;> rfl
theorem as_load (t : TypeId) : astep P call ρ H (.load t x) = (vload P H t (ev ρ x)).map (·, H) := ao_load P ρ H x t
theorem as_store (t : TypeId) : astep P call ρ H (.store t x y) = (vstore P H t (ev ρ x) (ev ρ y)).map (undefV, ·) := by
  simp only [astep, isCall, aop]; cases ev ρ x <;> rfl
theorem as_alloc (t : TypeId) : astep P call ρ H (.alloc t) = allocV P H t := Eq.trans rfl rfl
theorem as_box (t : TypeId) : astep P call ρ H (.box t x) = newVar H t (ev ρ x) := Eq.trans rfl rfl
theorem as_pick (c : Operand) : astep P call ρ H (.pick c x y) = (vpick (ev ρ c) (ev ρ x) (ev ρ y)).map (·, H) := by
  simp only [astep, isCall, aop]
  cases ev ρ c with
  | s v =>
    cases v with
    | bool t => cases t <;> rfl
    | _ => rfl
  | _ => rfl
theorem as_build (t : TypeId) (l : List (Nat × Operand)) : astep P call ρ H (.build t l.toArray) = (vbuild P t (l.map (evp ρ))).map (·, H) := Eq.trans rfl rfl
theorem as_buildSlice (t : TypeId) (n : Nat) (l : List (Nat × Operand)) : astep P call ρ H (.buildSlice t n l.toArray) = vbuildSlice P H t n (l.map (evp ρ)) := Eq.trans rfl rfl
theorem as_nilCheck : astep P call ρ H (.nilCheck x) = (vnil (ev ρ x)).map (·, H) := by
  simp only [astep, isCall, aop]; cases ev ρ x <;> rfl
theorem as_makeFunc (f : FuncId) (l' l : List Operand) : astep P call ρ H (.makeFunc (.func f) l'.toArray l.toArray) = some (.fn f (l'.map (ev ρ)) (l.map (ev ρ)), H) := Eq.trans rfl rfl
theorem as_makeSlice (t : TypeId) : astep P call ρ H (.makeSlice t x y) = vmakeSlice P H t (ev ρ x) (ev ρ y) := Eq.trans rfl rfl
theorem as_slice (t : TypeId) (lo hi mx : Option Operand) : astep P call ρ H (.slice t x lo hi mx) = (vslice P H t (ev ρ x) (lo.map (ev ρ)) (hi.map (ev ρ)) (mx.map (ev ρ))).map (·, H) := Eq.trans rfl rfl
theorem as_fieldAddr (s : TypeId) (fi : Nat) : astep P call ρ H (.fieldAddr s x fi) = (vfieldAddr P s (ev ρ x) fi).map (·, H) := Eq.trans rfl rfl
theorem as_field (s : TypeId) (fi : Nat) : astep P call ρ H (.field s x fi) = (vfield P s (ev ρ x) fi).map (·, H) := Eq.trans rfl rfl
theorem as_indexAddr (t : TypeId) : astep P call ρ H (.indexAddr t x y) = (vindexAddr P t (ev ρ x) (ev ρ y)).map (·, H) := Eq.trans rfl rfl
theorem as_index (t : TypeId) : astep P call ρ H (.index t x y) = (vindex P t (ev ρ x) (ev ρ y)).map (·, H) := Eq.trans rfl rfl
theorem as_extract (i : Nat) : astep P call ρ H (.extract x i) = (vextract (ev ρ x) i).map (·, H) := Eq.trans rfl rfl
theorem as_builtin (b : Builtin) (l : List Operand) (ts : Array TypeId) : astep P call ρ H (.call ⟨.builtin b, l.toArray, ts⟩) = vbuiltin P H b ts (l.map (ev ρ)) := Eq.trans rfl rfl
theorem as_call (l : List Operand) (ts : Array TypeId) : astep P call ρ H (.call ⟨.value x, l.toArray, ts⟩) = fb (ev ρ x) fun f a c => call f (a ++ l.map (ev ρ) ++ c) H := by
  simp only [astep, isCall, acallee]
  cases ev ρ x with
  | fn f a c => rfl
  | _ => rfl

def sr (x : Option (V × Hp)) (v : V) : Bool := match x with | some (v', _) => V.beq v' v | none => false
theorem sr_some (v v' : V) : sr (some (v', H)) v = V.beq v' v := Eq.trans rfl rfl
theorem same_load (t : TypeId) (v : V) : sameRead P ρ H (.load t x) v = sr ((vload P H t (ev ρ x)).map (·, H)) v := by
  rw [← ao_load]; unfold sameRead sr; cases aop P ρ H (.load t x) <;> rfl
theorem same_bin (op : BinOp) (t t' : TypeId) (v : V) : sameRead P ρ H (.binOp op t x y t') v = sr ((vbin P H op t (constOp x || constOp y) (ev ρ x) (ev ρ y)).map (·, H)) v := by
  unfold sameRead sr; simp only [aop]; cases vbin P H op t (constOp x || constOp y) (ev ρ x) (ev ρ y) <;> rfl
theorem same_conv (s t : TypeId) (v : V) : sameRead P ρ H (.convert s t x) v = sr ((vconv P H s t (ev ρ x)).map (·, H)) v := by
  unfold sameRead sr; simp only [aop]; cases vconv P H s t (ev ρ x) <;> rfl
theorem same_slice (t : TypeId) (lo hi mx : Option Operand) (v : V) : sameRead P ρ H (.slice t x lo hi mx) v = sr ((vslice P H t (ev ρ x) (lo.map (ev ρ)) (hi.map (ev ρ)) (mx.map (ev ρ))).map (·, H)) v := by
  unfold sameRead sr; simp only [aop]; cases vslice P H t (ev ρ x) (lo.map (ev ρ)) (hi.map (ev ρ)) (mx.map (ev ρ)) <;> rfl
theorem ck1_some (P : Program) (ρ : List V) (H H' : Hp) (b : Bool) (v : V) (o : Op) : ck1 P (some (ρ, H, b, v)) H' o = (!b || sameRead P ρ H' o v) := Eq.trans rfl rfl
theorem ck0_some (P : Program) (o : Oper) (e : Option (List V × Hp × Bool × V)) (H : Hp) : ck0 P (some o) e H = ck1 P e H o.op := Eq.trans rfl rfl
theorem ckall_nil (P : Program) (ops : List Oper) (tr : Tce) (HN : Hp) : ckall P ops [] tr HN = true := Eq.trans rfl rfl
theorem ckall_cons (P : Program) (ops : List Oper) (i j : Nat) (ps : List (Nat × Nat)) (tr : Tce) (HN : Hp) : ckall P ops ((i, j) :: ps) tr HN = (ck0 P ops[i]? tr[i]? (heapAt tr HN j) && ckall P ops ps tr HN) := Eq.trans rfl rfl
def hAt (e : Option (List V × Hp × Bool × V)) (HN : Hp) : Hp := match e with | some (_, H, _) => H | none => HN
theorem heapAt_hAt (tr : Tce) (HN : Hp) (j : Nat) : heapAt tr HN j = hAt tr[j]? HN := Eq.trans rfl rfl
theorem hAt_some (ρ : List V) (H : Hp) (b : Bool) (v : V) (HN : Hp) : hAt (some (ρ, H, b, v)) HN = H := Eq.trans rfl rfl
theorem hAt_none (HN : Hp) : hAt none HN = HN := Eq.trans rfl rfl
theorem beq_int (k : IntKind) (a b : Int) : V.beq (.s (.int k a)) (.s (.int k b)) = decide (a = b) := by simp [V.beq, seq]
theorem beq_bool (a b : Bool) : V.beq (.s (.bool a)) (.s (.bool b)) = decide (a = b) := by simp [V.beq, seq]
theorem beq_ptr (n g o : Nat) : V.beq (.ptr n g o) (.ptr n g o) = true := by simp [V.beq]
theorem beq_sl (n g o l c : Nat) (e : Bool) (z : Nat) : V.beq (.sl n g o l c e z) (.sl n g o l c e z) = true := by simp [V.beq]
theorem beq_slnil (n c : Nat) : V.beq (.s (.slice none n c)) (.s (.slice none n c)) = true := by simp [V.beq, seq]
end

/-- The operations of the region with this number. -/
def opsOf (id : Nat) : Code → List Oper
  | .region i ops _ => if i = id then ops.toList else []
  | .seq a b => match opsOf id a with | [] => opsOf id b | l => l
  | .cond _ a b => match opsOf id a with | [] => opsOf id b | l => l
  | .block _ a => opsOf id a
  | .loop a => opsOf id a
  | _ => []
end Go.Am
