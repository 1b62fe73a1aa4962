/-
  The same walking rules, one for each kind of operation, each with what is to come as its last argument: a rewriter looks at the state alone and never at the code that is still to come.
-/
import Derived.Test.YtnicmcdnpeimoaaDoorAm16
set_option linter.unusedVariables false
set_option linter.unusedSimpArgs false
namespace Go.Am

section
variable {R : Type}
def ob (x : Option V) (k : V → Option R) : Option R := match x with | some v => k v | none => none
def hb (x : Option Hp) (k : Hp → Option R) : Option R := match x with | some v => k v | none => none
def vb (x : Option (V × Hp)) (k : V → Hp → Option R) : Option R := match x with | some (v, H) => k v H | none => none
def xb (x : Option (Ex × List V × Hp)) (k : Ex → List V → Hp → Option R) : Option R := match x with | some (e, ρ, H) => k e ρ H | none => none
def cb (v : V) (x y : Option R) : Option R := match v with | .s (.bool true) => x | .s (.bool false) => y | _ => none
def nb (e : Ex) (x y : Option R) : Option R := match e with | .norm => x | _ => y
def gb (v : Option Bool) (x y : Option R) : Option R := match v with | some true => x | some false => y | _ => none
def fb (v : V) (k : FuncId → List V → List V → Option R) : Option R := match v with | .fn f a c => k f a c | _ => none
def bx (id : Nat) (e : Ex) : Ex := match e with | .exit j => cond (j == id) .norm (.exit j) | e => e
def fo (ρ : List V) (k : List V → Option R) : Option R := k ρ
theorem fo_first {ρ ρ' : List V} {k : List V → Option R} (h : ρ = ρ') : fo ρ k = fo ρ' k := by rw [h]
theorem fo_cons (x : V) (l : List V) (k : List V → Option R) : fo (x :: l) k = k (x :: l) := Eq.trans rfl rfl
theorem fo_nil (k : List V → Option R) : fo [] k = k [] := Eq.trans rfl rfl
def rb (x : Option (List V × Hp)) (k : List V → Hp → Option R) : Option R := match x with | some (ρ, H) => k ρ H | none => none

theorem ob_first {x y : Option V} {k : V → Option R} (h : x = y) : ob x k = ob y k := by rw [h]
theorem hb_first {x y : Option Hp} {k : Hp → Option R} (h : x = y) : hb x k = hb y k := by rw [h]
theorem vb_first {x y : Option (V × Hp)} {k : V → Hp → Option R} (h : x = y) : vb x k = vb y k := by rw [h]
theorem xb_first {x y : Option (Ex × List V × Hp)} {k : Ex → List V → Hp → Option R} (h : x = y) : xb x k = xb y k := by rw [h]
theorem cb_first {v w : V} {x y : Option R} (h : v = w) : cb v x y = cb w x y := by rw [h]
theorem nb_first {v w : Ex} {x y : Option R} (h : v = w) : nb v x y = nb w x y := by rw [h]
theorem gb_first {v w : Option Bool} {x y : Option R} (h : v = w) : gb v x y = gb w x y := by rw [h]
theorem fb_first {v w : V} {k : FuncId → List V → List V → Option R} (h : v = w) : fb v k = fb w k := by rw [h]
theorem rb_first {x y : Option (List V × Hp)} {k : List V → Hp → Option R} (h : x = y) : rb x k = rb y k := by rw [h]

theorem ob_some (v : V) (k : V → Option R) : ob (some v) k = k v := Eq.trans rfl rfl
theorem hb_some (v : Hp) (k : Hp → Option R) : hb (some v) k = k v := Eq.trans rfl rfl
theorem vb_some (v : V) (H : Hp) (k : V → Hp → Option R) : vb (some (v, H)) k = k v H := Eq.trans rfl rfl
theorem xb_some (e : Ex) (ρ : List V) (H : Hp) (k : Ex → List V → Hp → Option R) : xb (some (e, ρ, H)) k = k e ρ H := Eq.trans rfl rfl
theorem rb_some (ρ : List V) (H : Hp) (k : List V → Hp → Option R) : rb (some (ρ, H)) k = k ρ H := Eq.trans rfl rfl
theorem cb_t (x y : Option R) : cb (.s (.bool true)) x y = x := Eq.trans rfl rfl
theorem cb_f (x y : Option R) : cb (.s (.bool false)) x y = y := Eq.trans rfl rfl
theorem nb_norm (x y : Option R) : nb .norm x y = x := Eq.trans rfl rfl
theorem nb_ret (x y : Option R) : nb .ret x y = y := Eq.trans rfl rfl
theorem nb_exit (i : Nat) (x y : Option R) : nb (.exit i) x y = y := Eq.trans rfl rfl
theorem gb_t (x y : Option R) : gb (some true) x y = x := Eq.trans rfl rfl
theorem gb_f (x y : Option R) : gb (some false) x y = y := Eq.trans rfl rfl
theorem fb_fn (f : FuncId) (a c : List V) (k : FuncId → List V → List V → Option R) : fb (.fn f a c) k = k f a c := Eq.trans rfl rfl
theorem bx_norm (id : Nat) : bx id .norm = .norm := Eq.trans rfl rfl
theorem bx_ret (id : Nat) : bx id .ret = .ret := Eq.trans rfl rfl
theorem bx_exit (id j : Nat) : bx id (.exit j) = cond (j == id) .norm (.exit j) := Eq.trans rfl rfl

/-- The operations of a region, then k. -/
abbrev RunS (R : Type) : Type := { f : Program → Caller → List Oper → List Oper → List V → Hp → (List V → Hp → Option R) → Option R // ∀ P call ops l ρ H k, f P call ops l ρ H k = rb (aops P call ops.toArray l ρ H) k }
theorem runS_ne (R : Type) : Nonempty (RunS R) := ⟨⟨fun P call ops l ρ H k => rb (aops P call ops.toArray l ρ H) k, fun _ _ _ _ _ _ _ => rfl⟩⟩
/-- It is not to be unfolded by the kernel: a choice. -/
noncomputable def run (P : Program) (call : Caller) (ops : List Oper) (l : List Oper) (ρ : List V) (H : Hp) (k : List V → Hp → Option R) : Option R := (Classical.choice (runS_ne R)).1 P call ops l ρ H k
theorem run_def (P : Program) (call : Caller) (ops : List Oper) (l : List Oper) (ρ : List V) (H : Hp) (k : List V → Hp → Option R) : run P call ops l ρ H k = rb (aops P call ops.toArray l ρ H) k := (Classical.choice (runS_ne R)).2 ..

/-- Code, then k. -/
abbrev GoS (R : Type) : Type := { g : Ctx → FuncId → Code → List V → Hp → (Ex → List V → Hp → Option R) → Option R // ∀ C f c ρ H k, g C f c ρ H k = xb (codeL C f c ρ H) k }
theorem goS_ne (R : Type) : Nonempty (GoS R) := ⟨⟨fun C f c ρ H k => xb (codeL C f c ρ H) k, fun _ _ _ _ _ _ => rfl⟩⟩
noncomputable def go (C : Ctx) (f : FuncId) (c : Code) (ρ : List V) (H : Hp) (k : Ex → List V → Hp → Option R) : Option R := (Classical.choice (goS_ne R)).1 C f c ρ H k
theorem go_def (C : Ctx) (f : FuncId) (c : Code) (ρ : List V) (H : Hp) (k : Ex → List V → Hp → Option R) : go C f c ρ H k = xb (codeL C f c ρ H) k := (Classical.choice (goS_ne R)).2 ..

theorem run_first {P : Program} {call : Caller} {ops l : List Oper} {ρ ρ' : List V} {H : Hp} {k : List V → Hp → Option R} (h : ρ = ρ') : run P call ops l ρ H k = run P call ops l ρ' H k := by rw [h]
theorem go_first {C : Ctx} {f : FuncId} {c : Code} {ρ ρ' : List V} {H : Hp} {k : Ex → List V → Hp → Option R} (h : ρ = ρ') : go C f c ρ H k = go C f c ρ' H k := by rw [h]
theorem codeL_first {C : Ctx} {f : FuncId} {c : Code} {ρ ρ' : List V} {H : Hp} (h : ρ = ρ') : codeL C f c ρ H = codeL C f c ρ' H := by rw [h]

section
variable (C : Ctx) (f : FuncId) (ρ : List V) (H : Hp) (k : Ex → List V → Hp → Option R)
theorem g_seq (a b : Code) : go C f (.seq a b) ρ H k = go C f a ρ H fun e ρ' H' => nb e (go C f b ρ' H' k) (k e ρ' H') := by
  simp only [go_def]
  rw [cL_seq]
  cases codeL C f a ρ H with
  | none => rfl
  | some x => obtain ⟨e, ρ', H'⟩ := x; cases e <;> simp [xb, nb]
theorem g_skip : go C f .skip ρ H k = k .norm ρ H := by rw [go_def]; rw [cL_skip]; rfl
theorem g_ret : go C f .ret ρ H k = k .ret ρ H := by rw [go_def]; rw [cL_ret]; rfl
theorem g_exit (id : Nat) : go C f (.exit id) ρ H k = k (.exit id) ρ H := by rw [go_def]; rw [cL_exit]; rfl
theorem g_label (id : Nat) : go C f (.label id) ρ H k = k .norm ρ H := by rw [go_def]; rw [cL_label]; rfl
theorem g_block (id : Nat) (b : Code) : go C f (.block id b) ρ H k = go C f b ρ H fun e ρ' H' => k (bx id e) ρ' H' := by
  simp only [go_def]
  rw [cL_block]
  cases codeL C f b ρ H with
  | none => rfl
  | some x =>
    obtain ⟨e, ρ', H'⟩ := x
    cases e with
    | norm => rfl
    | ret => rfl
    | exit j =>
      by_cases h : j = id
      · subst h; simp [xb, bx]
      · have h2 : (j == id) = false := by simpa using h
        simp [xb, bx, h, h2]
theorem g_cond (c : Operand) (a b : Code) : go C f (.cond c a b) ρ H k = cb (ev ρ c) (go C f a ρ H k) (go C f b ρ H k) := by
  simp only [go_def]
  rw [cL_cond]
  cases ev ρ c with
  | s v =>
    cases v with
    | bool t => cases t <;> rfl
    | _ => rfl
  | _ => rfl
theorem g_region (id : Nat) (l : List Oper) : go C f (.region id l.toArray false) ρ H k = run C.P (callL C) l l ρ H fun ρ' H' => fo (kill ρ' (C.K f id)) fun ρ'' => k .norm ρ'' H' := by
  simp only [go_def, run_def]
  rw [cL_region]
  cases aops C.P (callL C) l.toArray l.toArray.toList ρ H with
  | none => rfl
  | some x => obtain ⟨ρ', H'⟩ := x; rfl
theorem g_draw (id : Nat) (l : List Oper) : go C f (.region id l.toArray true) ρ H k = rb (adraw C.P (callL C) l ρ H) fun ρ' H' => fo (kill ρ' (C.K f id)) fun ρ'' => k .norm ρ'' H' := by
  simp only [go_def]
  rw [cL_draw]
  cases adraw C.P (callL C) l.toArray.toList ρ H with
  | none => rfl
  | some x => obtain ⟨ρ', H'⟩ := x; rfl
theorem g_loop (b : Code) : go C f (.loop b) ρ H k = xb (codeL C f (.loop b) ρ H) k := go_def ..
end
theorem loop_go (C : Ctx) (f : FuncId) (ρ : List V) (H : Hp) (b : Code) : codeL C f (.loop b) ρ H = go C f b ρ H fun e ρ' H' => nb e (codeL C f (.loop b) ρ' H') (some (e, ρ', H')) := by
  rw [cL_loop]
  simp only [go_def]
  cases codeL C f b ρ H with
  | none => rfl
  | some x => obtain ⟨e, ρ', H'⟩ := x; cases e <;> simp [xb, nb]
theorem code_go (C : Ctx) (f : FuncId) (ρ : List V) (H : Hp) (b : Code) : codeL C f b ρ H = go C f b ρ H fun e ρ' H' => some (e, ρ', H') := by
  simp only [go_def]
  cases codeL C f b ρ H with
  | none => rfl
  | some x => obtain ⟨e, ρ', H'⟩ := x; rfl

/-! ### What a function hands back -/
def resl (P : Program) (ρ : List V) (H : Hp) : List ResultVar → Option (List V)
  | [] => some []
  | .tmp t :: r => (resl P ρ H r).map (ρ.getD t undefV :: ·)
  | .cell a t :: r => ((match ρ.getD a undefV with | .ptr n g off => loadVar P H t n g off | _ => none)).bind fun v => (resl P ρ H r).map (v :: ·)
def fin1 (vs : Option (List V)) (H : Hp) : Option (V × Hp) := match vs with | some [v] => some (v, H) | some vs => some (.tup vs, H) | none => none
def fin (P : Program) (rs : List ResultVar) (e : Ex) (ρ : List V) (H : Hp) : Option (V × Hp) := match e with | .exit _ => none | _ => fin1 (resl P ρ H rs) H
theorem fin_norm (P : Program) (rs : List ResultVar) (ρ : List V) (H : Hp) : fin P rs .norm ρ H = fin1 (resl P ρ H rs) H := Eq.trans rfl rfl
theorem fin_ret (P : Program) (rs : List ResultVar) (ρ : List V) (H : Hp) : fin P rs .ret ρ H = fin1 (resl P ρ H rs) H := Eq.trans rfl rfl
theorem fin1_one (v : V) (H : Hp) : fin1 (some [v]) H = some (v, H) := Eq.trans rfl rfl
theorem fin1_nil (H : Hp) : fin1 (some []) H = some (.tup [], H) := Eq.trans rfl rfl
theorem fin1_two (v w : V) (r : List V) (H : Hp) : fin1 (some (v :: w :: r)) H = some (.tup (v :: w :: r), H) := Eq.trans rfl rfl
theorem resl_nil (P : Program) (ρ : List V) (H : Hp) : resl P ρ H [] = some [] := Eq.trans rfl rfl
theorem resl_tmp (P : Program) (ρ : List V) (H : Hp) (t : Tmp) (r : List ResultVar) : resl P ρ H (.tmp t :: r) = (resl P ρ H r).map (ρ.getD t undefV :: ·) := Eq.trans rfl rfl
def vload (P : Program) (H : Hp) (t : TypeId) (a : V) : Option V := match a with | .ptr n g off => loadVar P H t n g off | _ => none
theorem vload_ptr (P : Program) (H : Hp) (t : TypeId) (n g off : Nat) : vload P H t (.ptr n g off) = loadVar P H t n g off := Eq.trans rfl rfl
theorem resl_cell (P : Program) (ρ : List V) (H : Hp) (a : Tmp) (t : TypeId) (r : List ResultVar) : resl P ρ H (.cell a t :: r) = (vload P H t (ρ.getD a undefV)).bind fun v => (resl P ρ H r).map (v :: ·) := Eq.trans rfl rfl

theorem mapM_resl (P : Program) (ρ : List V) (H : Hp) (F : ResultVar → Option V) (h1 : ∀ t, F (.tmp t) = some (ρ.getD t undefV)) (h2 : ∀ a t, F (.cell a t) = vload P H t (ρ.getD a undefV)) : ∀ l, l.mapM F = resl P ρ H l := by
  intro l
  induction l with
  | nil => rfl
  | cons r l ih =>
    rw [List.mapM_cons, ih]
    cases r with
    | tmp t => rw [h1]; cases h : resl P ρ H l <;> simp [resl, h]
    | cell a t =>
      rw [h2, resl_cell]
      cases vload P H t (ρ.getD a undefV) with
      | none => rfl
      | some v => cases h : resl P ρ H l <;> simp [h]
theorem results_resl (P : Program) (fn : Func) (ρ : List V) (H : Hp) : (results P fn ρ H).map (·, H) = fin1 (resl P ρ H fn.results.toList) H := by
  unfold results
  rw [mapM_resl P ρ H _ (fun _ => rfl) (fun a t => by simp only [vload]; cases ρ.getD a undefV <;> rfl)]
  generalize fn.results.toList = l
  cases resl P ρ H l with
  | none => rfl
  | some vs =>
    cases vs with
    | nil => rfl
    | cons v r => cases r <;> rfl

theorem call_go (C : Ctx) (f : FuncId) (fn : Func) (c : Code) (n : Nat) (rs : List ResultVar) (args : List V) (H : Hp) (hs : C.same f = false) (hf : C.P.funcs[f]? = some fn) (hb : fn.body = some c) (hn : (fn.name == "runtime.NumGoroutine") = false)
    (ht : fn.ntmps - args.length = n) (hr : fn.results.toList = rs) : callL C f args H = go C f c (args ++ List.replicate n undefV) H (fin C.P rs) := by
  rw [callL_body C f fn c args H hs hf hb hn, ht]
  subst hr
  simp only [go_def]
  cases codeL C f c (args ++ List.replicate n undefV) H with
  | none => rfl
  | some x =>
    obtain ⟨e, ρ', H'⟩ := x
    cases e with
    | exit j => rfl
    | norm => simp only [Option.bind_some, xb, fin]; exact results_resl ..
    | ret => simp only [Option.bind_some, xb, fin]; exact results_resl ..

/-! ### One rule for each kind of operation -/
def gdl : List Oper → Nat → Option Tmp
  | [], _ => none
  | o :: _, 0 => o.dst
  | _ :: l, n + 1 => gdl l n
theorem gdl_zero (d : Option Tmp) (op : Op) (t : TypeId) (p : String) (a : Array Edge) (g : Option (Nat × Bool)) (l : List Oper) : gdl (⟨d, op, t, p, a, g⟩ :: l) 0 = d := Eq.trans rfl rfl
theorem gdl_succ (o : Oper) (l : List Oper) (n : Nat) : gdl (o :: l) (n + 1) = gdl l n := Eq.trans rfl rfl
theorem gdl_eq : ∀ (l : List Oper) (j : Nat), (l.toArray[j]?).bind (·.dst) = gdl l j := by
  intro l
  induction l with
  | nil => intro j; rfl
  | cons o l ih =>
    intro j
    cases j with
    | zero => simp [gdl]
    | succ j => simpa [gdl] using ih j
def wv (w : Bool) (v : Option V) : Option Bool := match v with | none => some false | some (.s (.bool b)) => some (b == w) | some (.s (.tuple _)) => some false | _ => none
def wd (ρ : List V) (w : Bool) (d : Option Tmp) : Option Bool := match d with | none => some false | some d => wv w ρ[d]?
theorem wv_bool (w b : Bool) : wv w (some (.s (.bool b))) = some (cond w b (!b)) := by cases w <;> cases b <;> rfl
theorem wv_tup (w : Bool) (a : Array Value) : wv w (some (.s (.tuple a))) = some false := Eq.trans rfl rfl
theorem wd_some (ρ : List V) (w : Bool) (d : Tmp) : wd ρ w (some d) = wv w ρ[d]? := Eq.trans rfl rfl

section
variable (P : Program) (call : Caller) (ops : List Oper) (d : Tmp) (od : Option Tmp) (ty : TypeId) (ps : String) (af : Array Edge) (r : List Oper) (ρ : List V) (H : Hp) (k : List V → Hp → Option R)

theorem r_nil : run P call ops [] ρ H k = k ρ H := by rw [run_def]; rfl

theorem r_step (op : Op) : run P call ops (⟨od, op, ty, ps, af, none⟩ :: r) ρ H k = vb (astep P call ρ H op) fun v H' => run P call ops r (put ρ od v) H' k := by
  simp only [run_def]
  simp only [aops, wanted, Option.bind_some, if_true]
  cases astep P call ρ H op with
  | none => rfl
  | some x => rfl

theorem r_guard' (op : Op) (j : Nat) (w : Bool) : run P call ops (⟨od, op, ty, ps, af, some (j, w)⟩ :: r) ρ H k = gb (wd ρ w (gdl ops j)) (run P call ops (⟨od, op, ty, ps, af, none⟩ :: r) ρ H k) (fo (put ρ od undefV) fun ρ' => run P call ops r ρ' H k) := by
  rw [r_step]
  simp only [run_def]
  simp only [aops]
  have : wanted ops.toArray ρ ⟨od, op, ty, ps, af, some (j, w)⟩ = wd ρ w (gdl ops j) := by
    simp only [wanted, gdl_eq]
    cases gdl ops j with
    | none => rfl
    | some d =>
      simp only [wd]
      cases ρ[d]? with
      | none => rfl
      | some v => rfl
  rw [this]
  cases h : wd ρ w (gdl ops j) with
  | none => rfl
  | some b =>
    cases b with
    | false => rfl
    | true =>
      simp only [Option.bind_some, if_true, gb]
      cases astep P call ρ H op with
      | none => rfl
      | some x => rfl

variable (x y : Operand)
theorem r_guard (op : Op) (j : Nat) (w : Bool) : run P call ops (⟨od, op, ty, ps, af, some (j, w)⟩ :: r) ρ H k = rb (gb (wd ρ w (gdl ops j)) (run P call ops [⟨od, op, ty, ps, af, none⟩] ρ H fun ρ' H' => some (ρ', H')) (some (put ρ od undefV, H))) fun ρ' H' => fo ρ' fun ρ'' => run P call ops r ρ'' H' k := by
  rw [r_guard']
  cases wd ρ w (gdl ops j) with
  | none => rfl
  | some b =>
    cases b with
    | false => rfl
    | true =>
      simp only [gb]
      rw [r_step, r_step]
      cases astep P call ρ H op with
      | none => rfl
      | some x => simp only [vb, r_nil, rb, fo]
theorem r_move : run P call ops (⟨some d, .move x, ty, ps, af, none⟩ :: r) ρ H k = fo (ρ.set d (ev ρ x)) fun ρ' => run P call ops r ρ' H k := by rw [r_step]; rfl
theorem r_assign : run P call ops (⟨some d, .assign x, ty, ps, af, none⟩ :: r) ρ H k = fo (ρ.set d (ev ρ x)) fun ρ' => run P call ops r ρ' H k := by rw [r_step]; rfl
theorem r_bin (op : BinOp) (t t' : TypeId) : run P call ops (⟨some d, .binOp op t x y t', ty, ps, af, none⟩ :: r) ρ H k = ob (vbin P H op t (constOp x || constOp y) (ev ρ x) (ev ρ y)) fun v => fo (ρ.set d v) fun ρ' => run P call ops r ρ' H k := by
  rw [r_step]; simp only [astep, isCall, aop]; cases vbin P H op t (constOp x || constOp y) (ev ρ x) (ev ρ y) <;> rfl
theorem r_un (op : UnOp) (t : TypeId) : run P call ops (⟨some d, .unOp op t x, ty, ps, af, none⟩ :: r) ρ H k = ob (vun op (ev ρ x)) fun v => fo (ρ.set d v) fun ρ' => run P call ops r ρ' H k := by
  rw [r_step]; simp only [astep, isCall, aop]; cases vun op (ev ρ x) <;> rfl
theorem r_conv (s t : TypeId) : run P call ops (⟨some d, .convert s t x, ty, ps, af, none⟩ :: r) ρ H k = ob (vconv P H s t (ev ρ x)) fun v => fo (ρ.set d v) fun ρ' => run P call ops r ρ' H k := by
  rw [r_step]; simp only [astep, isCall, aop]; cases vconv P H s t (ev ρ x) <;> rfl
theorem r_load (t : TypeId) : run P call ops (⟨some d, .load t x, ty, ps, af, none⟩ :: r) ρ H k = ob (vload P H t (ev ρ x)) fun v => fo (ρ.set d v) fun ρ' => run P call ops r ρ' H k := by
  rw [r_step]; simp only [astep, isCall, aop]
  cases ev ρ x with
  | ptr n g off => simp only [vload]; cases loadVar P H t n g off <;> rfl
  | _ => rfl
def vstore (P : Program) (H : Hp) (t : TypeId) (a v : V) : Option Hp := match a with | .ptr n g off => storeVar P H t n g off v | _ => none
theorem vstore_ptr (P : Program) (H : Hp) (t : TypeId) (n g off : Nat) (v : V) : vstore P H t (.ptr n g off) v = storeVar P H t n g off v := Eq.trans rfl rfl
theorem r_store (t : TypeId) : run P call ops (⟨none, .store t x y, ty, ps, af, none⟩ :: r) ρ H k = hb (vstore P H t (ev ρ x) (ev ρ y)) fun H' => run P call ops r ρ H' k := by
  rw [r_step]; simp only [astep, isCall, aop]
  cases ev ρ x with
  | ptr n g off => simp only [vstore]; cases storeVar P H t n g off (ev ρ y) <;> rfl
  | _ => rfl
def allocV (P : Program) (H : Hp) (t : TypeId) : Option (V × Hp) := (zeroOf P t).bind fun z => newVar H t (.s z)
theorem r_alloc (t : TypeId) : run P call ops (⟨some d, .alloc t, ty, ps, af, none⟩ :: r) ρ H k = vb (allocV P H t) fun v H' => fo (ρ.set d v) fun ρ' => run P call ops r ρ' H' k := by
  rw [r_step]; rfl
theorem r_box (t : TypeId) : run P call ops (⟨some d, .box t x, ty, ps, af, none⟩ :: r) ρ H k = vb (newVar H t (ev ρ x)) fun v H' => fo (ρ.set d v) fun ρ' => run P call ops r ρ' H' k := by
  rw [r_step]; rfl
def vpick (c a b : V) : Option V := match c with | .s (.bool t) => some (cond t a b) | _ => none
theorem vpick_b (t : Bool) (a b : V) : vpick (.s (.bool t)) a b = some (cond t a b) := Eq.trans rfl rfl
theorem r_pick (c : Operand) : run P call ops (⟨some d, .pick c x y, ty, ps, af, none⟩ :: r) ρ H k = ob (vpick (ev ρ c) (ev ρ x) (ev ρ y)) fun v => fo (ρ.set d v) fun ρ' => run P call ops r ρ' H k := by
  rw [r_step]; simp only [astep, isCall, aop]
  cases ev ρ c with
  | s v =>
    cases v with
    | bool t => cases t <;> rfl
    | _ => rfl
  | _ => rfl
def evp (ρ : List V) (x : Nat × Operand) : Nat × V := (x.1, ev ρ x.2)
theorem r_build (t : TypeId) (l : List (Nat × Operand)) : run P call ops (⟨some d, .build t l.toArray, ty, ps, af, none⟩ :: r) ρ H k = ob (vbuild P t (l.map (evp ρ))) fun v => fo (ρ.set d v) fun ρ' => run P call ops r ρ' H k := by
  rw [r_step]; simp only [astep, isCall, aop]
  show vb ((vbuild P t (l.map (evp ρ))).map (·, H)) _ = _
  cases vbuild P t (l.map (evp ρ)) <;> rfl
theorem r_buildSlice (t : TypeId) (n : Nat) (l : List (Nat × Operand)) : run P call ops (⟨some d, .buildSlice t n l.toArray, ty, ps, af, none⟩ :: r) ρ H k = vb (vbuildSlice P H t n (l.map (evp ρ))) fun v H' => fo (ρ.set d v) fun ρ' => run P call ops r ρ' H' k := by
  rw [r_step]; rfl
def vnil (x : V) : Option V := match x with | .ptr n g off => some (.ptr n g off) | .fn f a c => some (.fn f a c) | .ifc t v => some (.ifc t v) | _ => none
theorem vnil_ptr (n g off : Nat) : vnil (.ptr n g off) = some (.ptr n g off) := Eq.trans rfl rfl
theorem vnil_fn (f : FuncId) (a c : List V) : vnil (.fn f a c) = some (.fn f a c) := Eq.trans rfl rfl
theorem evp_mk (ρ : List V) (i : Nat) (x : Operand) : evp ρ (i, x) = (i, ev ρ x) := Eq.trans rfl rfl
theorem r_nilCheck : run P call ops (⟨some d, .nilCheck x, ty, ps, af, none⟩ :: r) ρ H k = ob (vnil (ev ρ x)) fun v => fo (ρ.set d v) fun ρ' => run P call ops r ρ' H k := by
  rw [r_step]; simp only [astep, isCall, aop]; cases ev ρ x <;> rfl
theorem r_nilCheck0 : run P call ops (⟨none, .nilCheck x, ty, ps, af, none⟩ :: r) ρ H k = ob (vnil (ev ρ x)) fun v => run P call ops r ρ H k := by
  rw [r_step]; simp only [astep, isCall, aop]; cases ev ρ x <;> rfl
theorem r_makeFunc (f : FuncId) (l' l : List Operand) : run P call ops (⟨some d, .makeFunc (.func f) l'.toArray l.toArray, ty, ps, af, none⟩ :: r) ρ H k = fo (ρ.set d (.fn f (l'.map (ev ρ)) (l.map (ev ρ)))) fun ρ' => run P call ops r ρ' H k := by
  rw [r_step]; rfl
theorem r_makeSlice (t : TypeId) : run P call ops (⟨some d, .makeSlice t x y, ty, ps, af, none⟩ :: r) ρ H k = vb (vmakeSlice P H t (ev ρ x) (ev ρ y)) fun v H' => fo (ρ.set d v) fun ρ' => run P call ops r ρ' H' k := by
  rw [r_step]; rfl
theorem r_slice (t : TypeId) (lo hi mx : Option Operand) : run P call ops (⟨some d, .slice t x lo hi mx, ty, ps, af, none⟩ :: r) ρ H k = ob (vslice P H t (ev ρ x) (lo.map (ev ρ)) (hi.map (ev ρ)) (mx.map (ev ρ))) fun v => fo (ρ.set d v) fun ρ' => run P call ops r ρ' H k := by
  rw [r_step]; simp only [astep, isCall, aop]; cases vslice P H t (ev ρ x) (lo.map (ev ρ)) (hi.map (ev ρ)) (mx.map (ev ρ)) <;> rfl
theorem r_fieldAddr (s : TypeId) (fi : Nat) : run P call ops (⟨some d, .fieldAddr s x fi, ty, ps, af, none⟩ :: r) ρ H k = ob (vfieldAddr P s (ev ρ x) fi) fun v => fo (ρ.set d v) fun ρ' => run P call ops r ρ' H k := by
  rw [r_step]; simp only [astep, isCall, aop]; cases vfieldAddr P s (ev ρ x) fi <;> rfl
theorem r_field (s : TypeId) (fi : Nat) : run P call ops (⟨some d, .field s x fi, ty, ps, af, none⟩ :: r) ρ H k = ob (vfield P s (ev ρ x) fi) fun v => fo (ρ.set d v) fun ρ' => run P call ops r ρ' H k := by
  rw [r_step]; simp only [astep, isCall, aop]; cases vfield P s (ev ρ x) fi <;> rfl
theorem r_indexAddr (t : TypeId) : run P call ops (⟨some d, .indexAddr t x y, ty, ps, af, none⟩ :: r) ρ H k = ob (vindexAddr P t (ev ρ x) (ev ρ y)) fun v => fo (ρ.set d v) fun ρ' => run P call ops r ρ' H k := by
  rw [r_step]; simp only [astep, isCall, aop]; cases vindexAddr P t (ev ρ x) (ev ρ y) <;> rfl
theorem r_index (t : TypeId) : run P call ops (⟨some d, .index t x y, ty, ps, af, none⟩ :: r) ρ H k = ob (vindex P t (ev ρ x) (ev ρ y)) fun v => fo (ρ.set d v) fun ρ' => run P call ops r ρ' H k := by
  rw [r_step]; simp only [astep, isCall, aop]; cases vindex P t (ev ρ x) (ev ρ y) <;> rfl
theorem r_extract (i : Nat) : run P call ops (⟨some d, .extract x i, ty, ps, af, none⟩ :: r) ρ H k = ob (vextract (ev ρ x) i) fun v => fo (ρ.set d v) fun ρ' => run P call ops r ρ' H k := by
  rw [r_step]; simp only [astep, isCall, aop]; cases vextract (ev ρ x) i <;> rfl
theorem extract_tup (vs : List V) (i : Nat) : vextract (.tup vs) i = vs[i]? := Eq.trans rfl rfl
theorem r_builtin (b : Builtin) (l : List Operand) (ts : Array TypeId) : run P call ops (⟨od, .call ⟨.builtin b, l.toArray, ts⟩, ty, ps, af, none⟩ :: r) ρ H k = vb (vbuiltin P H b ts (l.map (ev ρ))) fun v H' => fo (put ρ od v) fun ρ' => run P call ops r ρ' H' k := by
  rw [r_step]; rfl
theorem r_call (l : List Operand) (ts : Array TypeId) : run P call ops (⟨od, .call ⟨.value x, l.toArray, ts⟩, ty, ps, af, none⟩ :: r) ρ H k = fb (ev ρ x) fun f a c => vb (call f (a ++ l.map (ev ρ) ++ c) H) fun v H' => fo (put ρ od v) fun ρ' => run P call ops r ρ' H' k := by
  rw [r_step]; simp only [astep, isCall, acallee]
  cases ev ρ x with
  | fn f a c => rfl
  | _ => rfl
theorem put_some (v : V) : put ρ (some d) v = ρ.set d v := Eq.trans rfl rfl
theorem put_none (v : V) : put ρ none v = ρ := Eq.trans rfl rfl
theorem ev_tmp (t : Tmp) : ev ρ (.tmp t) = ρ.getD t .junk := Eq.trans rfl rfl
theorem ev_const (v : Value) : ev ρ (.const v) = .s v := Eq.trans rfl rfl
theorem ev_func (f : FuncId) : ev ρ (.func f) = .fn f [] [] := Eq.trans rfl rfl
theorem kill_t (v : V) (l : List V) (bs : List Bool) : kill (v :: l) (true :: bs) = v :: kill l bs := Eq.trans rfl rfl
theorem kill_f (v : V) (l : List V) (bs : List Bool) : kill (v :: l) (false :: bs) = .junk :: kill l bs := Eq.trans rfl rfl
theorem kill_nil (bs : List Bool) : kill [] bs = [] := Eq.trans rfl rfl
theorem getD_zero (v w : V) (l : List V) : (v :: l).getD 0 w = v := Eq.trans rfl rfl
theorem getD_succ (v w : V) (l : List V) (n : Nat) : (v :: l).getD (n + 1) w = l.getD n w := Eq.trans rfl rfl
end
end

end Go.Am
