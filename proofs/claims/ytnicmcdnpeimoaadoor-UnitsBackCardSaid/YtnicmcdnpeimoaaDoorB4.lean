/-
  The bits of octets, and stuffing.
-/
import Derived.Test.YtnicmcdnpeimoaaDoorB3
set_option linter.unusedVariables false
set_option linter.unusedSimpArgs false
set_option maxRecDepth 100000
namespace Go.Proofs.YtnicmcdnpeimoaaDoor
open Go.Am
attribute [local congr] fo_first sb_first ob_first hb_first vb_first xb_first cb_first nb_first gb_first fb_first rb_first db_first run_first go_first codeL_first

theorem mk23 (H : Hp) (n : Nat) (hn : n ≤ 8796093022208) : vmakeSlice Tryd.prog H 23 (.s (.int .i64 n)) (.s (.int .i64 n)) = some (.sl H.next 0 0 n n true 1, H.alloc (List.replicate n (.s (.int .u8 0))) 5) := by
  obtain ⟨i, h1, h2, h3, h4⟩ := info5
  exact make_one Tryd.underlying23 h1 h2 rfl h3 (by omega) H n hn
theorem mk23c (H : Hp) (n : Nat) (h0 : 0 < n) (hn : n ≤ 8796093022208) : vmakeSlice Tryd.prog H 23 (.s (.int .i64 0)) (.s (.int .i64 n)) = some (.sl H.next 0 0 0 0 false 1, H.alloc [] 5) := by
  obtain ⟨i, h1, h2, h3, h4⟩ := info5
  have e1 : IntKind.i64.wrap (n : Int) = n := w64 (by omega) (by omega)
  have e2 : IntKind.i64.wrap (0 : Int) = 0 := rfl
  have hz : (Value.int IntKind.u8 0).cells = #[Value.int IntKind.u8 0] := rfl
  simp only [vmakeSlice, Tryd.underlying23, Am.asInt, Option.bind_some, h1, h2, e1, e2, h3, h4, hz]
  have hp : ((1 : Nat) : Int) * (n : Int) ≤ 2 ^ 47 := by
    have : (2 : Int) ^ 47 = 140737488355328 := by decide
    omega
  rw [if_pos ⟨by omega, by omega, hp, rfl⟩]
  have e3 : ¬ ((0 : Int) = (n : Int)) := by omega
  simp only [e3, if_false, decide_false, zc5, Int.toNat_zero, List.replicate_zero]

def bitsOf (x : Nat) : List Nat := (List.range 8).map fun i => x / 2 ^ i % 2
def part8 (x k : Nat) : List V := (List.range 8).map fun i => if i < k then .s (.int .u8 ((x / 2 ^ i % 2 : Nat) : Int)) else .s (.int .u8 0)
theorem part8_set (x k : Nat) (h : k < 8) : (part8 x k).set k (.s (.int .u8 ((x / 2 ^ k % 2 : Nat) : Int))) = part8 x (k + 1) := by
  apply List.ext_getElem
  · simp [part8]
  · intro i h1 h2
    simp only [part8, List.getElem_set, List.getElem_map, List.getElem_range]
    by_cases e : k = i
    · subst e; simp
    · simp only [e, if_false]
      by_cases l : i < k
      · rw [if_pos l, if_pos (by omega)]
      · rw [if_neg l, if_neg (by omega)]
theorem part8_8 (x : Nat) : part8 x 8 = bs (bitsOf x) := by
  simp only [part8, bs, bitsOf, List.map_map]
  apply List.map_congr_left
  intro i hi
  have : i < 8 := by simpa using hi
  simp [this]
theorem and8 (x k : Nat) (hx : x < 256) (hk : k < 8) : IntKind.u64.wrap (BitVec.ofInt IntKind.u64.bits ((x : Int).fdiv (2 ^ k)) &&& BitVec.ofInt IntKind.u64.bits 1).toNat = ((x / 2 ^ k % 2 : Nat) : Int) := by
  have : ∀ (x : Fin 256) (k : Fin 8), IntKind.u64.wrap (BitVec.ofInt IntKind.u64.bits ((x.val : Int).fdiv (2 ^ k.val)) &&& BitVec.ofInt IntKind.u64.bits 1).toNat = ((x.val / 2 ^ k.val % 2 : Nat) : Int) := by decide +kernel
  exact this ⟨x, hx⟩ ⟨k, hk⟩

theorem digits_loop (x : Nat) (hx : x < 256) (H : Hp) : ∀ (d k : Nat), k + d = 8 →
    codeL ctx 51 (nth (fbody 51) [true, true, false, true, false]) [.s (.int .u64 x), .junk, .junk, .junk, .junk, .sl H.next 0 0 8 8 true 1, .junk, .junk, .junk, .s (.int .i64 8), .s (.int .i64 k), .junk, .junk, .junk, .junk, .junk, .junk, .junk, .junk, .junk, .junk, .junk, .junk] (H.alloc (part8 x k) 5) =
      some (.exit 0, [.s (.int .u64 x), .junk, .junk, .junk, .junk, .sl H.next 0 0 8 8 true 1, .junk, .junk, .junk, .s (.int .i64 8), .s (.int .i64 (8 : Nat)), .s (.bool false), .junk, .junk, .junk, .junk, .junk, .junk, .junk, .junk, .junk, .junk, .junk], H.alloc (part8 x 8) 5) := by
  intro d
  induction d with
  | zero =>
    intro k hk
    obtain rfl : k = 8 := by omega
    simp only [fb51, Tryd.f51, Option.getD_some, nth, cond_true, cond_false]
    rw [loop_go]
    have e : decide (((8 : Nat) : Int) < 8) = false := rfl
    simp (maxSteps := 5000000) (disch := first | assumption | omega | (refine id ?_; with_unfolding_all rfl) | (simp only [Hp.next_alloc, Hp.next_set, List.length_cons, List.length_nil]; omega)) only [↓g_seq, ↓g_skip, ↓g_ret, ↓g_exit, ↓g_label, ↓g_block, ↓g_cond, ↓g_region, ctx_P, ↓nb_norm, nb_norm, ↓nb_ret, nb_ret, ↓nb_exit, nb_exit, bx_norm, bx_ret, bx_exit, beq_self_eq_true, ↓cb_t, cb_t, ↓cb_f, cb_f, ↓gb_t, gb_t, ↓gb_f, gb_f, ↓ob_some, ob_some, ↓hb_some, hb_some, ↓vb_some, vb_some, ↓xb_some, xb_some, ↓rb_some, rb_some, ↓fb_fn, fb_fn, ↓fin_norm, fin_norm, ↓fin_ret, fin_ret, ↓fin1_one, fin1_one, ↓fin1_nil, fin1_nil, ↓fin1_two, fin1_two, resl_nil, resl_tmp, resl_cell, vload_ptr, gdl_zero, gdl_succ, wv_bool, wv_tup, wd_some, ↓r_nil, ↓r_guard, ↓r_move, ↓r_assign, ↓r_bin, ↓r_un, ↓r_conv, ↓r_load, ↓r_store, ↓r_alloc, ↓r_box, ↓r_pick, ↓r_build, ↓r_buildSlice, ↓r_nilCheck, ↓r_nilCheck0, ↓r_makeFunc, ↓r_makeSlice, ↓r_slice, ↓r_fieldAddr, ↓r_field, ↓r_indexAddr, ↓r_index, ↓r_extract, extract_tup, ↓r_builtin, ↓r_call, put_some, put_none, ev_tmp, ev_const, ev_func, kill_t, kill_f, kill_nil, getD_zero, getD_succ, vpick_b, vstore_ptr, vnil_ptr, vnil_fn, evp_mk, constOp, undefV, l_map, l_map0, l_set0, l_set, l_get0, l_get, List.append_nil, l_app0, List.nil_append, l_app, l_rep, l_rep0, o_bind, Option.bind_some, Option.bind_none, o_map, o_mapn, c_t, c_f, if_true, if_false, reduceCtorEq, Bool.false_eq_true, Bool.or_true, Bool.true_or, Bool.or_false, Bool.false_or, Bool.not_true, Bool.not_false, ↓fo_cons, fo_cons, fo_nil, eq_self, decide_true, decide_false, Int.reduceEq, Int.reduceNe, Int.reduceLT, Int.reduceLE, Int.reduceNeg, Int.reduceToNat, Nat.reduceAdd, Nat.reduceMul, Nat.reduceEqDiff, Nat.reduceBEq, Int.toNat_natCast, Nat.zero_add, Nat.add_zero, Nat.mul_one, vb_add, vb_sub, vb_mul, vb_quo, vb_rem, vb_and, vb_or, vb_xor, vb_shl, vb_shr, vb_eql, vb_neq, vb_lss, vb_leq, vb_gtr, vb_geq, sb_some, ld1_mk, st1_mk, stA_all, ldA_all, blk_alloc_at, blk_alloc_other, blk_set_same, blk_set_other, Hp.next_alloc, Hp.next_set, set_set, alloc_put_at, newVar_agg, newVar_int, ld3, ld4, ld5, ld22, ld26, ld30, ld81, ld23, ld37, ld28, ld25, ld58, ld82, ld72, st3, st4, st5, st22, st26, st30, st81, st23, st37, st28, st25, st58, st82, st72, fa28_0, fa28_1, fa28_2, fa28_3, fa28_4, fa28_5, fa28_6, fa25_0, fa25_1, fa25_2, fa25_3, fa25_4, fa25_5, fa58_0, fa58_1, fa58_2, fa58_3, fa58_4, fa58_5, fa58_6, ix23, ln23, ln23n, cp23, cp23n, ix37, ln37, ln37n, cp37, cp37n, ix82, ix72, cv81_5, cv5_81, cv5_3, cv3_5, cv22_3, cv22_5, cv5_22, cv3_22, K51_0, K51_1, K51_2, K51_3, K51_4, K51_5, K51_6, K51_7, e]
  | succ d ih =>
    intro k hk
    have hi := ih (k + 1) (by omega)
    simp only [fb51, Tryd.f51, Option.getD_some, nth, cond_true, cond_false] at hi ⊢
    rw [loop_go]
    have e : decide ((k : Int) < 8) = true := by simp; omega
    have hk2 : ¬ ((k : Int) < 0) := by omega
    have hkn : min k IntKind.u64.bits = k := by simp [IntKind.bits]; omega
    have hand := and8 x k hx (by omega)
    have hw8 : IntKind.u8.wrap ((x / 2 ^ k % 2 : Nat) : Int) = ((x / 2 ^ k % 2 : Nat) : Int) := w8 (by omega) (by omega)
    have hw64 : IntKind.i64.wrap ((k : Int) + 1) = ((k + 1 : Nat) : Int) := by rw [w64 (by omega) (by omega)]; rfl
    have e1 := ix23 H.next 0 0 8 8 true (i := (k : Int)) (by omega) (by omega)
    have e2 : k < (part8 x k).length := by simp [part8]; omega
    simp only [Int.toNat_natCast, Nat.mul_one, Nat.zero_add] at e1
    simp (maxSteps := 5000000) (disch := first | assumption | omega | (refine id ?_; with_unfolding_all rfl) | (simp only [Hp.next_alloc, Hp.next_set, List.length_cons, List.length_nil]; omega)) only [↓g_seq, ↓g_skip, ↓g_ret, ↓g_exit, ↓g_label, ↓g_block, ↓g_cond, ↓g_region, ctx_P, ↓nb_norm, nb_norm, ↓nb_ret, nb_ret, ↓nb_exit, nb_exit, bx_norm, bx_ret, bx_exit, beq_self_eq_true, ↓cb_t, cb_t, ↓cb_f, cb_f, ↓gb_t, gb_t, ↓gb_f, gb_f, ↓ob_some, ob_some, ↓hb_some, hb_some, ↓vb_some, vb_some, ↓xb_some, xb_some, ↓rb_some, rb_some, ↓fb_fn, fb_fn, ↓fin_norm, fin_norm, ↓fin_ret, fin_ret, ↓fin1_one, fin1_one, ↓fin1_nil, fin1_nil, ↓fin1_two, fin1_two, resl_nil, resl_tmp, resl_cell, vload_ptr, gdl_zero, gdl_succ, wv_bool, wv_tup, wd_some, ↓r_nil, ↓r_guard, ↓r_move, ↓r_assign, ↓r_bin, ↓r_un, ↓r_conv, ↓r_load, ↓r_store, ↓r_alloc, ↓r_box, ↓r_pick, ↓r_build, ↓r_buildSlice, ↓r_nilCheck, ↓r_nilCheck0, ↓r_makeFunc, ↓r_makeSlice, ↓r_slice, ↓r_fieldAddr, ↓r_field, ↓r_indexAddr, ↓r_index, ↓r_extract, extract_tup, ↓r_builtin, ↓r_call, put_some, put_none, ev_tmp, ev_const, ev_func, kill_t, kill_f, kill_nil, getD_zero, getD_succ, vpick_b, vstore_ptr, vnil_ptr, vnil_fn, evp_mk, constOp, undefV, l_map, l_map0, l_set0, l_set, l_get0, l_get, List.append_nil, l_app0, List.nil_append, l_app, l_rep, l_rep0, o_bind, Option.bind_some, Option.bind_none, o_map, o_mapn, c_t, c_f, if_true, if_false, reduceCtorEq, Bool.false_eq_true, Bool.or_true, Bool.true_or, Bool.or_false, Bool.false_or, Bool.not_true, Bool.not_false, ↓fo_cons, fo_cons, fo_nil, eq_self, decide_true, decide_false, Int.reduceEq, Int.reduceNe, Int.reduceLT, Int.reduceLE, Int.reduceNeg, Int.reduceToNat, Nat.reduceAdd, Nat.reduceMul, Nat.reduceEqDiff, Nat.reduceBEq, Int.toNat_natCast, Nat.zero_add, Nat.add_zero, Nat.mul_one, vb_add, vb_sub, vb_mul, vb_quo, vb_rem, vb_and, vb_or, vb_xor, vb_shl, vb_shr, vb_eql, vb_neq, vb_lss, vb_leq, vb_gtr, vb_geq, sb_some, ld1_mk, st1_mk, stA_all, ldA_all, blk_alloc_at, blk_alloc_other, blk_set_same, blk_set_other, Hp.next_alloc, Hp.next_set, set_set, alloc_put_at, newVar_agg, newVar_int, ld3, ld4, ld5, ld22, ld26, ld30, ld81, ld23, ld37, ld28, ld25, ld58, ld82, ld72, st3, st4, st5, st22, st26, st30, st81, st23, st37, st28, st25, st58, st82, st72, fa28_0, fa28_1, fa28_2, fa28_3, fa28_4, fa28_5, fa28_6, fa25_0, fa25_1, fa25_2, fa25_3, fa25_4, fa25_5, fa58_0, fa58_1, fa58_2, fa58_3, fa58_4, fa58_5, fa58_6, ix23, ln23, ln23n, cp23, cp23n, ix37, ln37, ln37n, cp37, cp37n, ix82, ix72, cv81_5, cv5_81, cv5_3, cv3_5, cv22_3, cv22_5, cv5_22, cv3_22, K51_0, K51_1, K51_2, K51_3, K51_4, K51_5, K51_6, K51_7, e, hk2, hkn, hand, hw8, e1, e2, part8_set, hw64, ↓hi]

theorem digits (x : Nat) (hx : x < 256) (H : Hp) : callL ctx 51 [.s (.int .u64 x), .s (.int .i64 8)] H = some (.sl H.next 0 0 8 8 true 1, H.alloc (bs (bitsOf x)) 5) := by
  have L := digits_loop x hx H 8 0 (by omega)
  have mk := mk23 H 8 (by omega)
  rw [cg51]
  simp only [fb51, Tryd.f51, Option.getD_some, nth, cond_true, cond_false] at L ⊢
  have z0 : ((0 : Nat) : Int) = 0 := rfl
  have z8 : ((8 : Nat) : Int) = 8 := rfl
  have p0 : part8 x 0 = List.replicate 8 (.s (.int .u8 0)) := rfl
  rw [z0, p0, z8] at L
  rw [z8] at mk
  rw [part8_8] at L
  generalize hr : List.replicate 8 (V.s (.int .u8 0)) = r8 at L mk
  simp (maxSteps := 5000000) (disch := first | assumption | omega | (refine id ?_; with_unfolding_all rfl) | (simp only [Hp.next_alloc, Hp.next_set, List.length_cons, List.length_nil]; omega)) only [↓g_seq, ↓g_skip, ↓g_ret, ↓g_exit, ↓g_label, ↓g_block, ↓g_cond, ↓g_region, ctx_P, ↓nb_norm, nb_norm, ↓nb_ret, nb_ret, ↓nb_exit, nb_exit, bx_norm, bx_ret, bx_exit, beq_self_eq_true, ↓cb_t, cb_t, ↓cb_f, cb_f, ↓gb_t, gb_t, ↓gb_f, gb_f, ↓ob_some, ob_some, ↓hb_some, hb_some, ↓vb_some, vb_some, ↓xb_some, xb_some, ↓rb_some, rb_some, ↓fb_fn, fb_fn, ↓fin_norm, fin_norm, ↓fin_ret, fin_ret, ↓fin1_one, fin1_one, ↓fin1_nil, fin1_nil, ↓fin1_two, fin1_two, resl_nil, resl_tmp, resl_cell, vload_ptr, gdl_zero, gdl_succ, wv_bool, wv_tup, wd_some, ↓r_nil, ↓r_guard, ↓r_move, ↓r_assign, ↓r_bin, ↓r_un, ↓r_conv, ↓r_load, ↓r_store, ↓r_alloc, ↓r_box, ↓r_pick, ↓r_build, ↓r_buildSlice, ↓r_nilCheck, ↓r_nilCheck0, ↓r_makeFunc, ↓r_makeSlice, ↓r_slice, ↓r_fieldAddr, ↓r_field, ↓r_indexAddr, ↓r_index, ↓r_extract, extract_tup, ↓r_builtin, ↓r_call, put_some, put_none, ev_tmp, ev_const, ev_func, kill_t, kill_f, kill_nil, getD_zero, getD_succ, vpick_b, vstore_ptr, vnil_ptr, vnil_fn, evp_mk, constOp, undefV, l_map, l_map0, l_set0, l_set, l_get0, l_get, List.append_nil, l_app0, List.nil_append, l_app, l_rep, l_rep0, o_bind, Option.bind_some, Option.bind_none, o_map, o_mapn, c_t, c_f, if_true, if_false, reduceCtorEq, Bool.false_eq_true, Bool.or_true, Bool.true_or, Bool.or_false, Bool.false_or, Bool.not_true, Bool.not_false, ↓fo_cons, fo_cons, fo_nil, eq_self, decide_true, decide_false, Int.reduceEq, Int.reduceNe, Int.reduceLT, Int.reduceLE, Int.reduceNeg, Int.reduceToNat, Nat.reduceAdd, Nat.reduceMul, Nat.reduceEqDiff, Nat.reduceBEq, Int.toNat_natCast, Nat.zero_add, Nat.add_zero, Nat.mul_one, vb_add, vb_sub, vb_mul, vb_quo, vb_rem, vb_and, vb_or, vb_xor, vb_shl, vb_shr, vb_eql, vb_neq, vb_lss, vb_leq, vb_gtr, vb_geq, sb_some, ld1_mk, st1_mk, stA_all, ldA_all, blk_alloc_at, blk_alloc_other, blk_set_same, blk_set_other, Hp.next_alloc, Hp.next_set, set_set, alloc_put_at, newVar_agg, newVar_int, ld3, ld4, ld5, ld22, ld26, ld30, ld81, ld23, ld37, ld28, ld25, ld58, ld82, ld72, st3, st4, st5, st22, st26, st30, st81, st23, st37, st28, st25, st58, st82, st72, fa28_0, fa28_1, fa28_2, fa28_3, fa28_4, fa28_5, fa28_6, fa25_0, fa25_1, fa25_2, fa25_3, fa25_4, fa25_5, fa58_0, fa58_1, fa58_2, fa58_3, fa58_4, fa58_5, fa58_6, ix23, ln23, ln23n, cp23, cp23n, ix37, ln37, ln37n, cp37, cp37n, ix82, ix72, cv81_5, cv5_81, cv5_3, cv3_5, cv22_3, cv22_5, cv5_22, cv3_22, K51_0, K51_1, K51_2, K51_3, K51_4, K51_5, K51_6, K51_7, mk, ↓g_loop, ↓L]

/-! ### The bits of octets -/
def ofBits (l : List Nat) : List Nat := l.flatMap bitsOf
theorem ofBits_length (l : List Nat) : (ofBits l).length = 8 * l.length := by
  induction l with
  | nil => rfl
  | cons a l ih => simp only [ofBits, List.flatMap_cons, List.length_append] at ih ⊢; simp [bitsOf] at ih ⊢; omega
theorem ofBits_take (l : List Nat) (k : Nat) (h : k < l.length) : ofBits (l.take (k + 1)) = ofBits (l.take k) ++ bitsOf l[k] := by
  unfold ofBits
  rw [List.take_add_one, List.getElem?_eq_getElem h, List.flatMap_append]
  simp

theorem of_loop {l : List Nat} (hb : ∀ x ∈ l, x < 256) (hl : l.length < 2 ^ 20) (n g off cap : Nat) (ex : Bool) (M : Nat) (hnM : n < M) : ∀ d k (G : Hp) (g' : Nat), k + d = l.length → Sl G n g off l → Own G M g' (ofBits (l.take k)) [] → M < G.next →
    ∃ g'' G', Own G' M g'' (ofBits l) [] ∧ M < G'.next ∧ Fr M G G' ∧
    codeL ctx 40 (nth (fbody 40) [true, true, false, true, false]) [.junk, .junk, .junk, .sl M g' 0 (ofBits (l.take k)).length 0 false 1, .junk, .junk, .junk, .junk, .junk, .junk, .sl n g off l.length cap ex 1, .s (.int .i64 l.length), .s (.int .i64 k), .junk, .junk, .junk, .junk, .junk, .junk, .junk, .junk, .junk, .junk] G =
      some (.exit 0, [.junk, .junk, .junk, .sl M g'' 0 (ofBits l).length 0 false 1, .junk, .junk, .junk, .junk, .junk, .junk, .sl n g off l.length cap ex 1, .s (.int .i64 l.length), .s (.int .i64 l.length), .s (.bool false), .junk, .junk, .junk, .junk, .junk, .junk, .junk, .junk, .junk], G') := by
  intro d
  induction d with
  | zero =>
    intro k G g' hk hs ho hM
    obtain rfl : k = l.length := by omega
    rw [List.take_length] at ho ⊢
    refine ⟨g', G, ho, hM, Fr.refl _ _, ?_⟩
    simp only [fb40, Tryd.f40, Option.getD_some, nth, cond_true, cond_false]
    rw [loop_go]
    have e : decide ((l.length : Int) < l.length) = false := by simp
    simp (maxSteps := 5000000) (disch := first | assumption | omega | (refine id ?_; with_unfolding_all rfl) | (simp only [Hp.next_alloc, Hp.next_set, List.length_cons, List.length_nil]; omega)) only [↓g_seq, ↓g_skip, ↓g_ret, ↓g_exit, ↓g_label, ↓g_block, ↓g_cond, ↓g_region, ctx_P, ↓nb_norm, nb_norm, ↓nb_ret, nb_ret, ↓nb_exit, nb_exit, bx_norm, bx_ret, bx_exit, beq_self_eq_true, ↓cb_t, cb_t, ↓cb_f, cb_f, ↓gb_t, gb_t, ↓gb_f, gb_f, ↓ob_some, ob_some, ↓hb_some, hb_some, ↓vb_some, vb_some, ↓xb_some, xb_some, ↓rb_some, rb_some, ↓fb_fn, fb_fn, ↓fin_norm, fin_norm, ↓fin_ret, fin_ret, ↓fin1_one, fin1_one, ↓fin1_nil, fin1_nil, ↓fin1_two, fin1_two, resl_nil, resl_tmp, resl_cell, vload_ptr, gdl_zero, gdl_succ, wv_bool, wv_tup, wd_some, ↓r_nil, ↓r_guard, ↓r_move, ↓r_assign, ↓r_bin, ↓r_un, ↓r_conv, ↓r_load, ↓r_store, ↓r_alloc, ↓r_box, ↓r_pick, ↓r_build, ↓r_buildSlice, ↓r_nilCheck, ↓r_nilCheck0, ↓r_makeFunc, ↓r_makeSlice, ↓r_slice, ↓r_fieldAddr, ↓r_field, ↓r_indexAddr, ↓r_index, ↓r_extract, extract_tup, ↓r_builtin, ↓r_call, put_some, put_none, ev_tmp, ev_const, ev_func, kill_t, kill_f, kill_nil, getD_zero, getD_succ, vpick_b, vstore_ptr, vnil_ptr, vnil_fn, evp_mk, constOp, undefV, l_map, l_map0, l_set0, l_set, l_get0, l_get, List.append_nil, l_app0, List.nil_append, l_app, l_rep, l_rep0, o_bind, Option.bind_some, Option.bind_none, o_map, o_mapn, c_t, c_f, if_true, if_false, reduceCtorEq, Bool.false_eq_true, Bool.or_true, Bool.true_or, Bool.or_false, Bool.false_or, Bool.not_true, Bool.not_false, ↓fo_cons, fo_cons, fo_nil, eq_self, decide_true, decide_false, Int.reduceEq, Int.reduceNe, Int.reduceLT, Int.reduceLE, Int.reduceNeg, Int.reduceToNat, Nat.reduceAdd, Nat.reduceMul, Nat.reduceEqDiff, Nat.reduceBEq, Int.toNat_natCast, Nat.zero_add, Nat.add_zero, Nat.mul_one, vb_add, vb_sub, vb_mul, vb_quo, vb_rem, vb_and, vb_or, vb_xor, vb_shl, vb_shr, vb_eql, vb_neq, vb_lss, vb_leq, vb_gtr, vb_geq, sb_some, ld1_mk, st1_mk, stA_all, ldA_all, blk_alloc_at, blk_alloc_other, blk_set_same, blk_set_other, Hp.next_alloc, Hp.next_set, set_set, alloc_put_at, newVar_agg, newVar_int, ld3, ld4, ld5, ld22, ld26, ld30, ld81, ld23, ld37, ld28, ld25, ld58, ld82, ld72, st3, st4, st5, st22, st26, st30, st81, st23, st37, st28, st25, st58, st82, st72, fa28_0, fa28_1, fa28_2, fa28_3, fa28_4, fa28_5, fa28_6, fa25_0, fa25_1, fa25_2, fa25_3, fa25_4, fa25_5, fa58_0, fa58_1, fa58_2, fa58_3, fa58_4, fa58_5, fa58_6, ix23, ln23, ln23n, cp23, cp23n, ix37, ln37, ln37n, cp37, cp37n, ix82, ix72, cv81_5, cv5_81, cv5_3, cv3_5, cv22_3, cv22_5, cv5_22, cv3_22, K40_0, K40_1, K40_2, K40_3, K40_4, K40_5, K40_6, K40_7, e]
  | succ d ih =>
    intro k G g' hk hs ho hM
    have hkl : k < l.length := by omega
    have hx : l[k] < 256 := hb _ (List.getElem_mem hkl)
    have hd := digits l[k] hx G
    have hs1 : Sl (G.alloc (bs (bitsOf l[k])) 5) G.next 0 0 (bitsOf l[k]) := (Own.of_alloc G _).sl
    have hf0 := Fr.alloc G (bs (bitsOf l[k])) 5
    have h8 : (bitsOf l[k]).length = 8 := by simp [bitsOf]
    obtain ⟨g1, G1, a1, a2, a3, a4⟩ := app_mv (ho.fr hf0 hM) (flen_sl G.next 0 0 _ 8 true 1) (first_sl hs1 (cap := 8) (ex := true)) (by simp) (by rw [ofBits_length, h8]; simp; omega) rfl (len2 := (ofBits (l.take (k + 1))).length) (by rw [ofBits_take l k hkl])
    rw [← ofBits_take l k hkl] at a2
    have hf1 : Fr M G G1 := ⟨by rw [a3]; exact hf0.1, fun j hj => (a4 j (by omega)).trans (hf0.2 j (by omega))⟩
    obtain ⟨g2, G2, b1, b2, b3, b4⟩ := ih (k + 1) G1 g1 (by omega) (hs.fr hf1 hnM) a2 (by have := hf1.1; omega)
    refine ⟨g2, G2, b1, b2, hf1.trans b3, ?_⟩
    simp only [fb40, Tryd.f40, Option.getD_some, nth, cond_true, cond_false] at b4 ⊢
    rw [loop_go]
    have e : decide ((k : Int) < l.length) = true := by simp; omega
    have e1 := ix23 n g off l.length cap ex (i := (k : Int)) (by omega) (by omega)
    have e2 := hs.at hkl
    have e3 : IntKind.u64.wrap ((l[k] : Nat) : Int) = ((l[k] : Nat) : Int) := wu64 (by omega) (by omega)
    have e5 : IntKind.i64.wrap ((k : Int) + 1) = ((k + 1 : Nat) : Int) := by rw [w64 (by omega) (by omega)]; rfl
    rw [h8] at a1
    simp only [Int.toNat_natCast, Nat.mul_one] at e1
    simp (maxSteps := 5000000) (disch := first | assumption | omega | (refine id ?_; with_unfolding_all rfl) | (simp only [Hp.next_alloc, Hp.next_set, List.length_cons, List.length_nil]; omega)) only [↓g_seq, ↓g_skip, ↓g_ret, ↓g_exit, ↓g_label, ↓g_block, ↓g_cond, ↓g_region, ctx_P, ↓nb_norm, nb_norm, ↓nb_ret, nb_ret, ↓nb_exit, nb_exit, bx_norm, bx_ret, bx_exit, beq_self_eq_true, ↓cb_t, cb_t, ↓cb_f, cb_f, ↓gb_t, gb_t, ↓gb_f, gb_f, ↓ob_some, ob_some, ↓hb_some, hb_some, ↓vb_some, vb_some, ↓xb_some, xb_some, ↓rb_some, rb_some, ↓fb_fn, fb_fn, ↓fin_norm, fin_norm, ↓fin_ret, fin_ret, ↓fin1_one, fin1_one, ↓fin1_nil, fin1_nil, ↓fin1_two, fin1_two, resl_nil, resl_tmp, resl_cell, vload_ptr, gdl_zero, gdl_succ, wv_bool, wv_tup, wd_some, ↓r_nil, ↓r_guard, ↓r_move, ↓r_assign, ↓r_bin, ↓r_un, ↓r_conv, ↓r_load, ↓r_store, ↓r_alloc, ↓r_box, ↓r_pick, ↓r_build, ↓r_buildSlice, ↓r_nilCheck, ↓r_nilCheck0, ↓r_makeFunc, ↓r_makeSlice, ↓r_slice, ↓r_fieldAddr, ↓r_field, ↓r_indexAddr, ↓r_index, ↓r_extract, extract_tup, ↓r_builtin, ↓r_call, put_some, put_none, ev_tmp, ev_const, ev_func, kill_t, kill_f, kill_nil, getD_zero, getD_succ, vpick_b, vstore_ptr, vnil_ptr, vnil_fn, evp_mk, constOp, undefV, l_map, l_map0, l_set0, l_set, l_get0, l_get, List.append_nil, l_app0, List.nil_append, l_app, l_rep, l_rep0, o_bind, Option.bind_some, Option.bind_none, o_map, o_mapn, c_t, c_f, if_true, if_false, reduceCtorEq, Bool.false_eq_true, Bool.or_true, Bool.true_or, Bool.or_false, Bool.false_or, Bool.not_true, Bool.not_false, ↓fo_cons, fo_cons, fo_nil, eq_self, decide_true, decide_false, Int.reduceEq, Int.reduceNe, Int.reduceLT, Int.reduceLE, Int.reduceNeg, Int.reduceToNat, Nat.reduceAdd, Nat.reduceMul, Nat.reduceEqDiff, Nat.reduceBEq, Int.toNat_natCast, Nat.zero_add, Nat.add_zero, Nat.mul_one, vb_add, vb_sub, vb_mul, vb_quo, vb_rem, vb_and, vb_or, vb_xor, vb_shl, vb_shr, vb_eql, vb_neq, vb_lss, vb_leq, vb_gtr, vb_geq, sb_some, ld1_mk, st1_mk, stA_all, ldA_all, blk_alloc_at, blk_alloc_other, blk_set_same, blk_set_other, Hp.next_alloc, Hp.next_set, set_set, alloc_put_at, newVar_agg, newVar_int, ld3, ld4, ld5, ld22, ld26, ld30, ld81, ld23, ld37, ld28, ld25, ld58, ld82, ld72, st3, st4, st5, st22, st26, st30, st81, st23, st37, st28, st25, st58, st82, st72, fa28_0, fa28_1, fa28_2, fa28_3, fa28_4, fa28_5, fa28_6, fa25_0, fa25_1, fa25_2, fa25_3, fa25_4, fa25_5, fa58_0, fa58_1, fa58_2, fa58_3, fa58_4, fa58_5, fa58_6, ix23, ln23, ln23n, cp23, cp23n, ix37, ln37, ln37n, cp37, cp37n, ix82, ix72, cv81_5, cv5_81, cv5_3, cv3_5, cv22_3, cv22_5, cv5_22, cv3_22, K40_0, K40_1, K40_2, K40_3, K40_4, K40_5, K40_6, K40_7, e, e1, e2, e3, hd, a1, e5, ↓b4]

theorem of {H : Hp} {n g off cap : Nat} {ex : Bool} {l : List Nat} (hs : Sl H n g off l) (hn : n < H.next) (hb : ∀ x ∈ l, x < 256) (h0 : l ≠ []) (hl : l.length < 2 ^ 20) :
    ∃ g' H', callL ctx 40 [.sl n g off l.length cap ex 1] H = some (.sl H.next g' 0 (ofBits l).length 0 false 1, H') ∧ Own H' H.next g' (ofBits l) [] ∧ H.next < H'.next ∧ Fr H.next H H' := by
  have h0' : 0 < l.length := by cases l <;> simp_all
  have hf := Fr.alloc H [] 5
  obtain ⟨g', G', a1, a2, a3, a4⟩ := of_loop hb hl n g off cap ex H.next hn l.length 0 (H.alloc [] 5) 0 (by omega) (hs.fr hf hn) (Own.of_alloc H []) (by simp [Hp.alloc])
  refine ⟨g', G', ?_, a1, a2, hf.trans a3⟩
  rw [cg40]
  simp only [fb40, Tryd.f40, Option.getD_some, nth, cond_true, cond_false] at a4 ⊢
  have mk := mk23c H (8 * l.length) (by omega) (by omega)
  have e1 : IntKind.i64.wrap (8 * (l.length : Int)) = ((8 * l.length : Nat) : Int) := by rw [w64 (by omega) (by omega)]; omega
  have z0 : ((0 : Nat) : Int) = 0 := rfl
  have z1 : (ofBits (List.take 0 l)).length = 0 := by simp [ofBits]
  rw [z0, z1] at a4
  simp (maxSteps := 5000000) (disch := first | assumption | omega | (refine id ?_; with_unfolding_all rfl) | (simp only [Hp.next_alloc, Hp.next_set, List.length_cons, List.length_nil]; omega)) only [↓g_seq, ↓g_skip, ↓g_ret, ↓g_exit, ↓g_label, ↓g_block, ↓g_cond, ↓g_region, ctx_P, ↓nb_norm, nb_norm, ↓nb_ret, nb_ret, ↓nb_exit, nb_exit, bx_norm, bx_ret, bx_exit, beq_self_eq_true, ↓cb_t, cb_t, ↓cb_f, cb_f, ↓gb_t, gb_t, ↓gb_f, gb_f, ↓ob_some, ob_some, ↓hb_some, hb_some, ↓vb_some, vb_some, ↓xb_some, xb_some, ↓rb_some, rb_some, ↓fb_fn, fb_fn, ↓fin_norm, fin_norm, ↓fin_ret, fin_ret, ↓fin1_one, fin1_one, ↓fin1_nil, fin1_nil, ↓fin1_two, fin1_two, resl_nil, resl_tmp, resl_cell, vload_ptr, gdl_zero, gdl_succ, wv_bool, wv_tup, wd_some, ↓r_nil, ↓r_guard, ↓r_move, ↓r_assign, ↓r_bin, ↓r_un, ↓r_conv, ↓r_load, ↓r_store, ↓r_alloc, ↓r_box, ↓r_pick, ↓r_build, ↓r_buildSlice, ↓r_nilCheck, ↓r_nilCheck0, ↓r_makeFunc, ↓r_makeSlice, ↓r_slice, ↓r_fieldAddr, ↓r_field, ↓r_indexAddr, ↓r_index, ↓r_extract, extract_tup, ↓r_builtin, ↓r_call, put_some, put_none, ev_tmp, ev_const, ev_func, kill_t, kill_f, kill_nil, getD_zero, getD_succ, vpick_b, vstore_ptr, vnil_ptr, vnil_fn, evp_mk, constOp, undefV, l_map, l_map0, l_set0, l_set, l_get0, l_get, List.append_nil, l_app0, List.nil_append, l_app, l_rep, l_rep0, o_bind, Option.bind_some, Option.bind_none, o_map, o_mapn, c_t, c_f, if_true, if_false, reduceCtorEq, Bool.false_eq_true, Bool.or_true, Bool.true_or, Bool.or_false, Bool.false_or, Bool.not_true, Bool.not_false, ↓fo_cons, fo_cons, fo_nil, eq_self, decide_true, decide_false, Int.reduceEq, Int.reduceNe, Int.reduceLT, Int.reduceLE, Int.reduceNeg, Int.reduceToNat, Nat.reduceAdd, Nat.reduceMul, Nat.reduceEqDiff, Nat.reduceBEq, Int.toNat_natCast, Nat.zero_add, Nat.add_zero, Nat.mul_one, vb_add, vb_sub, vb_mul, vb_quo, vb_rem, vb_and, vb_or, vb_xor, vb_shl, vb_shr, vb_eql, vb_neq, vb_lss, vb_leq, vb_gtr, vb_geq, sb_some, ld1_mk, st1_mk, stA_all, ldA_all, blk_alloc_at, blk_alloc_other, blk_set_same, blk_set_other, Hp.next_alloc, Hp.next_set, set_set, alloc_put_at, newVar_agg, newVar_int, ld3, ld4, ld5, ld22, ld26, ld30, ld81, ld23, ld37, ld28, ld25, ld58, ld82, ld72, st3, st4, st5, st22, st26, st30, st81, st23, st37, st28, st25, st58, st82, st72, fa28_0, fa28_1, fa28_2, fa28_3, fa28_4, fa28_5, fa28_6, fa25_0, fa25_1, fa25_2, fa25_3, fa25_4, fa25_5, fa58_0, fa58_1, fa58_2, fa58_3, fa58_4, fa58_5, fa58_6, ix23, ln23, ln23n, cp23, cp23n, ix37, ln37, ln37n, cp37, cp37n, ix82, ix72, cv81_5, cv5_81, cv5_3, cv3_5, cv22_3, cv22_5, cv5_22, cv3_22, K40_0, K40_1, K40_2, K40_3, K40_4, K40_5, K40_6, K40_7, e1, mk, ↓g_loop, ↓a4]
end Go.Proofs.YtnicmcdnpeimoaaDoor
