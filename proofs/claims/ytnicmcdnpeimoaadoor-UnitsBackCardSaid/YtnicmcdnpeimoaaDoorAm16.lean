/-
  Rules for walking code on the abstract machine.
-/
import Derived.Test.YtnicmcdnpeimoaaDoorAm15
set_option linter.unusedVariables false
set_option linter.unusedSimpArgs false
namespace Go.Am

/-- Of what is done one behind the other, the first is looked at first. -/
theorem bind_first {α β : Type} {x y : Option α} {f : α → Option β} (h : x = y) : x.bind f = y.bind f := by rw [h]

section
variable (C : Ctx) (f : FuncId) (ρ : List V) (H : Hp)

theorem cL_seq (a b : Code) : codeL C f (.seq a b) ρ H = (codeL C f a ρ H).bind fun x => if x.1 = .norm then codeL C f b x.2.1 x.2.2 else some x := by
  rw [codeL_eq]; rfl
theorem cL_skip : codeL C f .skip ρ H = some (.norm, ρ, H) := by rw [codeL_eq]; rfl
theorem cL_ret : codeL C f .ret ρ H = some (.ret, ρ, H) := by rw [codeL_eq]; rfl
theorem cL_exit (id : Nat) : codeL C f (.exit id) ρ H = some (.exit id, ρ, H) := by rw [codeL_eq]; rfl
theorem cL_label (id : Nat) : codeL C f (.label id) ρ H = some (.norm, ρ, H) := by rw [codeL_eq]; rfl
theorem cL_block (id : Nat) (b : Code) : codeL C f (.block id b) ρ H = (codeL C f b ρ H).bind fun x => some (if x.1 = .exit id then .norm else x.1, x.2.1, x.2.2) := by
  rw [codeL_eq]; rfl
theorem cL_cond (c : Operand) (a b : Code) : codeL C f (.cond c a b) ρ H = match ev ρ c with | .s (.bool t) => codeL C f (if t then a else b) ρ H | _ => none := by
  rw [codeL_eq]; rfl
theorem cL_region (id : Nat) (ops : Array Oper) : codeL C f (.region id ops false) ρ H = (aops C.P (callL C) ops ops.toList ρ H).bind fun x => some (.norm, kill x.1 (C.K f id), x.2) := by
  rw [codeL_eq]; rfl
theorem cL_draw (id : Nat) (ops : Array Oper) : codeL C f (.region id ops true) ρ H = (adraw C.P (callL C) ops.toList ρ H).bind fun x => some (.norm, kill x.1 (C.K f id), x.2) := by
  rw [codeL_eq]; rfl
theorem cL_loop (b : Code) : codeL C f (.loop b) ρ H = (codeL C f b ρ H).bind fun x => if x.1 = .norm then codeL C f (.loop b) x.2.1 x.2.2 else some x := by
  rw [codeL_eq]; rfl
end

/-- A call is its body's code. -/
theorem callL_body (C : Ctx) (f : FuncId) (fn : Func) (c : Code) (args : List V) (H : Hp) (hs : C.same f = false) (hf : C.P.funcs[f]? = some fn) (hb : fn.body = some c) (hn : (fn.name == "runtime.NumGoroutine") = false) :
    callL C f args H = (codeL C f c (args ++ List.replicate (fn.ntmps - args.length) undefV) H).bind fun x =>
      match x.1 with
      | .exit _ => none
      | _ => (results C.P fn x.2.1 x.2.2).map (·, x.2.2) := by
  rw [callL_eq]
  unfold acallBody
  simp only [hs, Bool.false_eq_true, if_false, hf, hb, hn]
  rfl

/-! ### Operators at numbers -/
section
variable (P : Program) (H : Hp) (t : TypeId) (c : Bool) (k : IntKind) (a b : Int)
theorem vb_add : vbin P H .add t c (.s (.int k a)) (.s (.int k b)) = some (.s (.int k (k.wrap (a + b)))) := by simp [vbin, pint]
theorem vb_sub : vbin P H .sub t c (.s (.int k a)) (.s (.int k b)) = some (.s (.int k (k.wrap (a - b)))) := by simp [vbin, pint]
theorem vb_mul : vbin P H .mul t c (.s (.int k a)) (.s (.int k b)) = some (.s (.int k (k.wrap (a * b)))) := by simp [vbin, pint]
theorem vb_quo : vbin P H .quo t c (.s (.int k a)) (.s (.int k b)) = if b = 0 then none else some (.s (.int k (k.wrap (a.tdiv b)))) := by
  simp only [vbin, pint, if_true]; split <;> rfl
theorem vb_rem : vbin P H .rem t c (.s (.int k a)) (.s (.int k b)) = if b = 0 then none else some (.s (.int k (a.tmod b))) := by
  simp only [vbin, pint, if_true]; split <;> rfl
theorem vb_and : vbin P H .and t c (.s (.int k a)) (.s (.int k b)) = some (.s (.int k (k.wrap (BitVec.ofInt k.bits a &&& BitVec.ofInt k.bits b).toNat))) := by simp [vbin, pint]
theorem vb_or : vbin P H .or t c (.s (.int k a)) (.s (.int k b)) = some (.s (.int k (k.wrap (BitVec.ofInt k.bits a ||| BitVec.ofInt k.bits b).toNat))) := by simp [vbin, pint]
theorem vb_xor : vbin P H .xor t c (.s (.int k a)) (.s (.int k b)) = some (.s (.int k (k.wrap (BitVec.ofInt k.bits a ^^^ BitVec.ofInt k.bits b).toNat))) := by simp [vbin, pint]
theorem vb_shl (k' : IntKind) : vbin P H .shl t c (.s (.int k a)) (.s (.int k' b)) = if b < 0 then none else some (.s (.int k (k.wrap (a * 2 ^ (min b.toNat k.bits))))) := by
  simp only [vbin, pshift]; split <;> rfl
theorem vb_shr (k' : IntKind) : vbin P H .shr t c (.s (.int k a)) (.s (.int k' b)) = if b < 0 then none else some (.s (.int k (a.fdiv (2 ^ (min b.toNat k.bits))))) := by
  simp only [vbin, pshift]; split <;> rfl
theorem vb_eql : vbin P H .eql t c (.s (.int k a)) (.s (.int k b)) = some (.s (.bool (decide (a = b)))) := by
  simp only [vbin, pint, pcmp, if_true, Option.map_some]
  rfl
theorem vb_neq : vbin P H .neq t c (.s (.int k a)) (.s (.int k b)) = some (.s (.bool (!decide (a = b)))) := by
  simp only [vbin, pint, pcmp, if_true, Option.map_some]
  rfl
theorem vb_lss : vbin P H .lss t c (.s (.int k a)) (.s (.int k b)) = some (.s (.bool (decide (a < b)))) := by simp [vbin, pint, pcmp]
theorem vb_leq : vbin P H .leq t c (.s (.int k a)) (.s (.int k b)) = some (.s (.bool (decide (a ≤ b)))) := by simp [vbin, pint, pcmp]
theorem vb_gtr : vbin P H .gtr t c (.s (.int k a)) (.s (.int k b)) = some (.s (.bool (decide (b < a)))) := by simp [vbin, pint, pcmp]
theorem vb_geq : vbin P H .geq t c (.s (.int k a)) (.s (.int k b)) = some (.s (.bool (decide (b ≤ a)))) := by simp [vbin, pint, pcmp]
end

theorem w64 {x : Int} (h : -9223372036854775808 ≤ x) (h' : x ≤ 9223372036854775807) : IntKind.i64.wrap x = x := by
  have e1 : (2 : Int) ^ 64 = 18446744073709551616 := by decide
  have e2 : (2 : Int) ^ (64 - 1) = 9223372036854775808 := by decide
  simp only [IntKind.wrap, IntKind.bits, IntKind.signed, Bool.true_and, decide_eq_true_eq, e1, e2]
  split <;> omega
theorem w8 {x : Int} (h : 0 ≤ x) (h' : x ≤ 255) : IntKind.u8.wrap x = x := by
  simp only [IntKind.wrap, IntKind.bits, IntKind.signed, Bool.false_and, Bool.false_eq_true, if_false]; omega
theorem w16 {x : Int} (h : 0 ≤ x) (h' : x ≤ 65535) : IntKind.u16.wrap x = x := by
  simp only [IntKind.wrap, IntKind.bits, IntKind.signed, Bool.false_and, Bool.false_eq_true, if_false]; omega
theorem w32 {x : Int} (h : 0 ≤ x) (h' : x ≤ 4294967295) : IntKind.u32.wrap x = x := by
  simp only [IntKind.wrap, IntKind.bits, IntKind.signed, Bool.false_and, Bool.false_eq_true, if_false]; omega
theorem wu64 {x : Int} (h : 0 ≤ x) (h' : x ≤ 18446744073709551615) : IntKind.u64.wrap x = x := by
  simp only [IntKind.wrap, IntKind.bits, IntKind.signed, Bool.false_and, Bool.false_eq_true, if_false]; omega

theorem tmod_pos {a b : Int} (h : 0 ≤ a) : a.tmod b = a % b := Int.tmod_eq_emod_of_nonneg h
theorem tdiv_pos {a b : Int} (h : 0 ≤ a) : a.tdiv b = a / b := Int.tdiv_eq_ediv_of_nonneg h

/-! ### Memory -/
theorem blk_of {H : Hp} {n g : Nat} {b : Blk} (h : H.get n = some b) (hg : b.g = g) : blk H n g = some b := by
  unfold blk; rw [h]; simp [hg]

theorem loadVar_one {P : Program} {H : Hp} {t n g off : Nat} {b : Blk} {v : V} (ht : isAgg P t = some false) (h : blk H n g = some b) (hv : b.cells[off]? = some v) :
    loadVar P H t n g off = some v := by
  unfold loadVar; rw [ht]; simp [h, hv]

theorem storeVar_one {P : Program} {H : Hp} {t n g off : Nat} {b : Blk} {v : V} (ht : sizeOf P t = some 1) (h : blk H n g = some b) (hv : v.cells = some [v]) (h1 : v.one = true) (hw : b.rw = true) (ho : off < b.cells.length) :
    storeVar P H t n g off v = some (H.set n { b with cells := b.cells.set off v }) := by
  unfold storeVar stores
  rw [hv]
  simp [ht, h, hw, h1, splice]
  omega

theorem setF_setF {α : Type} : ∀ (f : Nat) (t : Tr α) (k : Nat) (x y : Option α), Tr.setF f (Tr.setF f t k x) k y = Tr.setF f t k y := by
  intro f
  induction f with
  | zero => intro t k x y; rfl
  | succ f ih =>
    intro t k x y
    cases t with
    | nil =>
      cases k with
      | zero => rfl
      | succ k =>
        simp only [Tr.setF]
        cases hb : Nat.beq (k % 2) 0 <;> simp only [cond_true, cond_false, Tr.setF, hb, ih]
    | node v l r =>
      cases k with
      | zero => rfl
      | succ k =>
        simp only [Tr.setF]
        cases hb : Nat.beq (k % 2) 0 <;> simp only [cond_true, cond_false, Tr.setF, hb, ih]

theorem set_set (H : Hp) (n : Nat) (a b : Blk) : (H.set n a).set n b = H.set n b := by
  unfold Hp.set Tr.set
  simp only [setF_setF]

theorem alloc_set (H : Hp) (cs : List V) (e : TypeId) (b : Blk) : (H.alloc cs e).set H.next b = { t := H.t.set H.next (some b), next := H.next + 1 } := by
  unfold Hp.set Hp.alloc Tr.set
  simp only [setF_setF]

theorem alloc_put (H : Hp) (cs cs' : List V) (e : TypeId) : (H.alloc cs e).set H.next ⟨cs', 0, true, e, true⟩ = H.alloc cs' e := by
  rw [alloc_set]; rfl


/-! ### One step behind the other -/
section
variable {C : Ctx} {f : FuncId} {ρ ρ1 : List V} {H H1 : Hp} {a b : Code} {r : Option (Ex × List V × Hp)} {e : Ex}
theorem go_seq (h : codeL C f a ρ H = some (.norm, ρ1, H1)) (k : codeL C f b ρ1 H1 = r) : codeL C f (.seq a b) ρ H = r := by
  rw [cL_seq, h]; exact k
theorem go_out (h : codeL C f a ρ H = some (e, ρ1, H1)) (he : e ≠ .norm) : codeL C f (.seq a b) ρ H = some (e, ρ1, H1) := by
  rw [cL_seq, h]; simp [he]
theorem go_cond {c : Operand} (t : Bool) (h : ev ρ c = .s (.bool t)) (k : codeL C f (cond t a b) ρ H = r) : codeL C f (.cond c a b) ρ H = r := by
  rw [cL_cond, h]; cases t <;> exact k
theorem go_block {id : Nat} (h : codeL C f a ρ H = some (.norm, ρ1, H1)) : codeL C f (.block id a) ρ H = some (.norm, ρ1, H1) := by
  rw [cL_block, h]; rfl
theorem go_block_exit {id : Nat} (h : codeL C f a ρ H = some (.exit id, ρ1, H1)) : codeL C f (.block id a) ρ H = some (.norm, ρ1, H1) := by
  rw [cL_block, h]; simp
theorem go_block_ret {id : Nat} (h : codeL C f a ρ H = some (.ret, ρ1, H1)) : codeL C f (.block id a) ρ H = some (.ret, ρ1, H1) := by
  rw [cL_block, h]; simp
theorem go_loop (h : codeL C f a ρ H = some (.norm, ρ1, H1)) (k : codeL C f (.loop a) ρ1 H1 = r) : codeL C f (.loop a) ρ H = r := by
  rw [cL_loop, h]; exact k
theorem go_loop_out (h : codeL C f a ρ H = some (e, ρ1, H1)) (he : e ≠ .norm) : codeL C f (.loop a) ρ H = some (e, ρ1, H1) := by
  rw [cL_loop, h]; simp [he]
theorem go_region {id : Nat} {ops : Array Oper} {l : List Oper} (hl : ops.toList = l) (h : aops C.P (callL C) ops l ρ H = some (ρ1, H1)) {ρ2 : List V} (hk : kill ρ1 (C.K f id) = ρ2) : codeL C f (.region id ops false) ρ H = some (.norm, ρ2, H1) := by
  rw [cL_region, hl, h]; simp [hk]
theorem go_call {fn : Func} {c : Code} {args : List V} {v : V} (hs : C.same f = false) (hf : C.P.funcs[f]? = some fn) (hb : fn.body = some c) (hn : (fn.name == "runtime.NumGoroutine") = false)
    (hr : args ++ List.replicate (fn.ntmps - args.length) undefV = ρ) (h : codeL C f c ρ H = some (e, ρ1, H1)) (he : e = .norm ∨ e = .ret) (hv : results C.P fn ρ1 H1 = some v) :
    callL C f args H = some (v, H1) := by
  rw [callL_body C f fn c args H hs hf hb hn, hr, h]
  rcases he with rfl | rfl <;> simp [hv]
end


/-! ### Slices -/
theorem ix_sl {P : Program} {t e : TypeId} {sz : Nat} (hu : P.underlying t = some (.slice e)) (hs : sizeOf P e = some sz) (n g off len cap : Nat) (ex : Bool) {i : Int} (h0 : 0 ≤ i) (h1 : i < len) :
    vindexAddr P t (.sl n g off len cap ex sz) (.s (.int .i64 i)) = some (.ptr n g (off + i.toNat * sz)) := by
  simp only [vindexAddr, asInt, Option.bind_some, hu, hs]
  rw [if_pos ⟨h0, h1, trivial⟩]

theorem len_sl {P : Program} {t e : TypeId} (hu : P.underlying t = some (.slice e)) (n g off len cap : Nat) (ex : Bool) (sz : Nat) : vlen P #[t] (.sl n g off len cap ex sz) = some (I len) := by
  simp [vlen, hu]
theorem len_nil {P : Program} {t e : TypeId} (hu : P.underlying t = some (.slice e)) : vlen P #[t] (.s (.slice none 0 0)) = some (I (0 : Nat)) := by
  simp [vlen, hu]

theorem make_one {P : Program} {t e : TypeId} {i : TypeInfo} {z : Value} (hu : P.underlying t = some (.slice e)) (hi : P.info? e = some i) (hz : i.zero = some z) (hc : z.cells = #[z]) (hs : i.size = 1) (hb : i.bytes ≤ 16) (H : Hp) (n : Nat) (hn : n ≤ 8796093022208) :
    vmakeSlice P H t (I n) (I n) = some (.sl H.next 0 0 n n true 1, H.alloc (List.replicate n (.s z)) e) := by
  have h1 : IntKind.i64.wrap (n : Int) = n := w64 (by omega) (by omega)
  have hp : (i.bytes : Int) * (n : Int) ≤ 2 ^ 47 := by
    have h2 : i.bytes * n ≤ 16 * 8796093022208 := Nat.mul_le_mul hb hn
    have h3 : (2 : Int) ^ 47 = 140737488355328 := by decide
    rw [h3]
    have : ((i.bytes * n : Nat) : Int) ≤ 140737488355328 := by omega
    simpa using this
  simp only [vmakeSlice, hu, asInt, I, Option.bind_some, hi, hz, h1]
  rw [if_pos ⟨by omega, by omega, hp, by rw [hc, hs]; rfl⟩]
  simp only [Int.toNat_natCast, if_true, decide_true, hs, zeroCells, hc, List.length_cons, List.length_nil, Nat.zero_add, Nat.mul_one, Nat.mod_one]
  congr 3
  apply List.ext_getElem
  · simp
  · intro j h1 h2; simp

end Go.Am
