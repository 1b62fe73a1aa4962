/-
  Grow and Concat.
-/
import Derived.Test.YtnicmcdnpeimoaaDoorB2
set_option linter.unusedVariables false
set_option linter.unusedSimpArgs false
set_option maxRecDepth 100000
namespace Go.Proofs.YtnicmcdnpeimoaaDoor
open Go.Am
attribute [local congr] fo_first sb_first ob_first hb_first vb_first xb_first cb_first nb_first gb_first fb_first rb_first db_first run_first go_first codeL_first

theorem sl_nil0 (H : Hp) : vslice Tryd.prog H 23 (.s (.slice none 0 0)) none (some (.s (.int .i64 0))) none = some (.s (.slice none 0 0)) := by
  simp [vslice, Tryd.underlying23, sz5, bound, Am.asInt, nilS]
theorem sl_to (H : Hp) (n g off len cap : Nat) (ex : Bool) {i : Int} (h0 : 0 ≤ i) (hi : i ≤ len) : vslice Tryd.prog H 23 (.sl n g off len cap ex 1) none (some (.s (.int .i64 i))) none = some (.sl n g off i.toNat cap ex 1) := by
  have h1 : i.toNat ≤ len := by omega
  simp [vslice, Tryd.underlying23, sz5, bound, Am.asInt, h0, h1]
theorem sl_from (H : Hp) (n g off len cap : Nat) (ex : Bool) {i : Int} (h0 : 0 ≤ i) (hi : i ≤ len) : vslice Tryd.prog H 23 (.sl n g off len cap ex 1) (some (.s (.int .i64 i))) none none = some (.sl n g (off + i.toNat) (len - i.toNat) (cap - i.toNat) ex 1) := by
  have h1 : i.toNat ≤ len := by omega
  simp [vslice, Tryd.underlying23, sz5, bound, Am.asInt, h0, h1]
theorem sl_part (H : Hp) (n g off len cap : Nat) (ex : Bool) {i j : Int} (h0 : 0 ≤ i) (hi : i ≤ j) (hj : j ≤ len) : vslice Tryd.prog H 23 (.sl n g off len cap ex 1) (some (.s (.int .i64 i))) (some (.s (.int .i64 j))) none = some (.sl n g (off + i.toNat) (j.toNat - i.toNat) (cap - i.toNat) ex 1) := by
  have h1 : i.toNat ≤ j.toNat := by omega
  have h2 : j.toNat ≤ len := by omega
  have h3 : 0 ≤ j := by omega
  simp only [vslice, Tryd.underlying23, sz5, bound, Am.asInt, Option.bind_some, if_pos h0, if_pos h3, ne_eq, not_true_eq_false, if_false, Nat.mul_one]
  rw [if_pos ⟨h1, h2⟩]

theorem zc5 (n : Nat) : zeroCells [Value.int .u8 0] n = List.replicate n (.s (.int .u8 0)) := by
  unfold zeroCells
  apply List.ext_getElem
  · simp
  · intro j h1 h2; simp [Nat.mod_one]
theorem app_make (H : Hp) (k : Nat) (h0 : 0 < k) (hk : k < 2 ^ 40) : vbuiltin Tryd.prog H .append #[23, 3] [.s (.slice none 0 0), .s (.int .i64 k)] = some (.sl H.next 0 0 k 0 false 1, H.alloc (List.replicate k (.s (.int .u8 0))) 5) := by
  obtain ⟨i, h1, h2, h3, h4⟩ := info5
  have hz : (Value.int IntKind.u8 0).cells = #[Value.int IntKind.u8 0] := rfl
  have hw : IntKind.i64.wrap (k : Int) = k := w64 (by omega) (by omega)
  have hn : vnew Tryd.prog H i (.int .u8 0) (.int .i64) (.s (.int .i64 k)) = some (k, List.replicate k (.s (.int .u8 0))) := by
    unfold vnew
    simp only [Am.asInt, Option.bind_some, hw, h4, hz]
    rw [if_pos (by omega)]
    simp only [Int.toNat_natCast, zc5]
  simp only [vbuiltin, vappend, List.getElem?_toArray, List.getElem?_cons_zero, List.getElem?_cons_succ, Option.bind_some, Tryd.underlying23, Tryd.underlying3, h1, h2, hz, hn, h3, h4]
  simp only [List.size_toArray, List.length_cons, List.length_nil, Nat.zero_add, ne_eq, not_true_eq_false, Nat.one_ne_zero, or_self, if_false, Nat.mul_one]
  rw [if_neg (by omega), if_pos ⟨by omega, by omega, by simp [V.one]⟩]

theorem grow (k : Nat) (h0 : 0 < k) (hk : k < 2 ^ 40) (H : Hp) : callL ctx 36 [.s (.slice none 0 0), .s (.int .i64 k)] H = some (.sl H.next 0 0 0 0 false 1, H.alloc (List.replicate k (.s (.int .u8 0))) 5) := by
  rw [cg36]; simp only [Tryd.f36, Option.getD_some]
  have h1 : decide ((k : Int) < 0) = false := by simp
  have h2 : IntKind.i64.wrap ((0 : Nat) - (0 : Nat) : Int) = (0 : Int) := by rw [w64 (by omega) (by omega)]; rfl
  have h3 : IntKind.i64.wrap ((k : Int) - 0) = (k : Int) := by rw [w64 (by omega) (by omega)]; omega
  have h4 : decide ((0 : Int) < (k : Int)) = true := by simp; exact h0
  have h5 := app_make H k h0 hk
  have h6 := sl_to (H.alloc (List.replicate k (.s (.int .u8 0))) 5) H.next 0 0 k 0 false (i := 0) (by omega) (by omega)
  have h7 := sl_nil0 H
  simp only [Int.natCast_zero, Int.toNat_zero, Int.ofNat_zero] at h2 h6
  simp (maxSteps := 5000000) (disch := first | assumption | omega | (refine id ?_; with_unfolding_all rfl) | (simp only [Hp.next_alloc, Hp.next_set, List.length_cons, List.length_nil]; omega)) only [↓g_seq, ↓g_skip, ↓g_ret, ↓g_exit, ↓g_label, ↓g_block, ↓g_cond, ↓g_region, ctx_P, ↓nb_norm, nb_norm, ↓nb_ret, nb_ret, ↓nb_exit, nb_exit, bx_norm, bx_ret, bx_exit, beq_self_eq_true, ↓cb_t, cb_t, ↓cb_f, cb_f, ↓gb_t, gb_t, ↓gb_f, gb_f, ↓ob_some, ob_some, ↓hb_some, hb_some, ↓vb_some, vb_some, ↓xb_some, xb_some, ↓rb_some, rb_some, ↓fb_fn, fb_fn, ↓fin_norm, fin_norm, ↓fin_ret, fin_ret, ↓fin1_one, fin1_one, ↓fin1_nil, fin1_nil, ↓fin1_two, fin1_two, resl_nil, resl_tmp, resl_cell, vload_ptr, gdl_zero, gdl_succ, wv_bool, wv_tup, wd_some, ↓r_nil, ↓r_guard, ↓r_move, ↓r_assign, ↓r_bin, ↓r_un, ↓r_conv, ↓r_load, ↓r_store, ↓r_alloc, ↓r_box, ↓r_pick, ↓r_build, ↓r_buildSlice, ↓r_nilCheck, ↓r_nilCheck0, ↓r_makeFunc, ↓r_makeSlice, ↓r_slice, ↓r_fieldAddr, ↓r_field, ↓r_indexAddr, ↓r_index, ↓r_extract, extract_tup, ↓r_builtin, ↓r_call, put_some, put_none, ev_tmp, ev_const, ev_func, kill_t, kill_f, kill_nil, getD_zero, getD_succ, vpick_b, vstore_ptr, vnil_ptr, vnil_fn, evp_mk, constOp, undefV, l_map, l_map0, l_set0, l_set, l_get0, l_get, List.append_nil, l_app0, List.nil_append, l_app, l_rep, l_rep0, o_bind, Option.bind_some, Option.bind_none, o_map, o_mapn, c_t, c_f, if_true, if_false, reduceCtorEq, Bool.false_eq_true, Bool.or_true, Bool.true_or, Bool.or_false, Bool.false_or, Bool.not_true, Bool.not_false, ↓fo_cons, fo_cons, fo_nil, eq_self, decide_true, decide_false, Int.reduceEq, Int.reduceNe, Int.reduceLT, Int.reduceLE, Int.reduceNeg, Int.reduceToNat, Nat.reduceAdd, Nat.reduceMul, Nat.reduceEqDiff, Nat.reduceBEq, Int.toNat_natCast, Nat.zero_add, Nat.add_zero, Nat.mul_one, vb_add, vb_sub, vb_mul, vb_quo, vb_rem, vb_and, vb_or, vb_xor, vb_shl, vb_shr, vb_eql, vb_neq, vb_lss, vb_leq, vb_gtr, vb_geq, sb_some, ld1_mk, st1_mk, stA_all, ldA_all, blk_alloc_at, blk_alloc_other, blk_set_same, blk_set_other, Hp.next_alloc, Hp.next_set, set_set, alloc_put_at, newVar_agg, newVar_int, ld3, ld4, ld5, ld22, ld26, ld30, ld81, ld23, ld37, ld28, ld25, ld58, ld82, ld72, st3, st4, st5, st22, st26, st30, st81, st23, st37, st28, st25, st58, st82, st72, fa28_0, fa28_1, fa28_2, fa28_3, fa28_4, fa28_5, fa28_6, fa25_0, fa25_1, fa25_2, fa25_3, fa25_4, fa25_5, fa58_0, fa58_1, fa58_2, fa58_3, fa58_4, fa58_5, fa58_6, ix23, ln23, ln23n, cp23, cp23n, ix37, ln37, ln37n, cp37, cp37n, ix82, ix72, cv81_5, cv5_81, cv5_3, cv3_5, cv22_3, cv22_5, cv5_22, cv3_22, K36_0, K36_1, K36_2, K36_3, K36_4, K36_5, K36_6, h1, h2, h3, h4, h5, h6, h7, Int.natCast_zero, Int.ofNat_zero]

/-- A slice of octets: none, or one that stands in memory. -/
def By (H : Hp) (v : V) (l : List Nat) : Prop := (v = .s (.slice none 0 0) ∧ l = []) ∨ ∃ n g off cap ex, v = .sl n g off l.length cap ex 1 ∧ n < H.next ∧ Sl H n g off l
theorem By.fr {m : Nat} {A B : Hp} (f : Fr m A B) {v : V} {l : List Nat} (h : By A v l) (hm : A.next ≤ m) : By B v l := by
  rcases h with h | ⟨n, g, off, cap, ex, h1, h2, h3⟩
  · exact .inl h
  · exact .inr ⟨n, g, off, cap, ex, h1, Nat.lt_of_lt_of_le h2 f.1, h3.fr f (by omega)⟩
theorem By.flen {H : Hp} {v : V} {l : List Nat} (h : By H v l) : Am.flen v = some l.length := by
  rcases h with ⟨rfl, rfl⟩ | ⟨n, g, off, cap, ex, rfl, _⟩ <;> rfl
theorem By.first {H : Hp} {v : V} {l : List Nat} (h : By H v l) : firstCells H 1 v = some (bs l) := by
  rcases h with ⟨rfl, rfl⟩ | ⟨n, g, off, cap, ex, rfl, _, h⟩
  · rfl
  · exact first_sl h
theorem By.noint {H : Hp} {v : V} {l : List Nat} (h : By H v l) : ∀ k y, v ≠ .s (.int k y) := by
  rcases h with ⟨rfl, rfl⟩ | ⟨n, g, off, cap, ex, rfl, _, h⟩ <;> simp
theorem By.len {H : Hp} {v : V} {l : List Nat} (h : By H v l) : vbuiltin Tryd.prog H .len #[23] [v] = some (.s (.int .i64 l.length), H) := by
  rcases h with ⟨rfl, rfl⟩ | ⟨n, g, off, cap, ex, rfl, _, h⟩
  · exact ln23n ..
  · exact ln23 ..
theorem By.cells {H : Hp} {v : V} {l : List Nat} (h : By H v l) : v.cells = some [v] := by
  rcases h with ⟨rfl, rfl⟩ | ⟨n, g, off, cap, ex, rfl, _, h⟩ <;> rfl
theorem By.one {H : Hp} {v : V} {l : List Nat} (h : By H v l) : v.one = true := by
  rcases h with ⟨rfl, rfl⟩ | ⟨n, g, off, cap, ex, rfl, _, h⟩ <;> rfl

/-! ### Concat of two -/
theorem concat {H : Hp} {N : Nat} {x y : V} {a b : List Nat} (hN : H.get N = some ⟨[x, y], 0, true, 23, true⟩) (hNn : N < H.next) (hx : By H x a) (hy : By H y b) (h0 : 0 < a.length + b.length) (hl : a.length + b.length < 2 ^ 30) :
    ∃ H', callL ctx 22 [.sl N 0 0 2 2 true 1] H = some (.sl H.next 0 0 (a ++ b).length 0 false 1, H') ∧ Own H' H.next 0 (a ++ b) [] ∧ H'.next = H.next + 1 ∧ Fr H.next H H' := by
  have hb : blk H N 0 = some ⟨[x, y], 0, true, 23, true⟩ := blk_of hN rfl
  have ha := hx.len
  have hbl := hy.len
  -- the sum of the lengths
  have p2 : ∀ (s : Int), codeL ctx 22 (nth (fbody 22) [true, true, false, true, false]) [.sl N 0 0 2 2 true 1, .junk, .junk, .s (.int .i64 s), .junk, .junk, .junk, .junk, .junk, .sl N 0 0 2 2 true 1, .s (.int .i64 (2 : Nat)), .s (.int .i64 2), .junk, .junk, .junk, .junk, .junk, .junk, .junk, .junk, .junk, .junk, .junk, .junk, .junk, .junk, .junk, .junk, .junk, .junk, .junk, .junk, .junk, .junk, .junk, .junk] H =
      some (.exit 0, [.sl N 0 0 2 2 true 1, .junk, .junk, .s (.int .i64 s), .junk, .junk, .junk, .junk, .junk, .sl N 0 0 2 2 true 1, .s (.int .i64 (2 : Nat)), .s (.int .i64 2), .s (.bool false), .junk, .junk, .junk, .junk, .junk, .junk, .junk, .junk, .junk, .junk, .junk, .junk, .junk, .junk, .junk, .junk, .junk, .junk, .junk, .junk, .junk, .junk, .junk], H) := by
    intro s
    simp only [fb22, Tryd.f22, Option.getD_some, nth, cond_true, cond_false]
    rw [loop_go]
    have e : decide ((2 : Int) < ((2 : Nat) : Int)) = false := rfl
    simp (maxSteps := 5000000) (disch := first | assumption | omega | (refine id ?_; with_unfolding_all rfl) | (simp only [Hp.next_alloc, Hp.next_set, List.length_cons, List.length_nil]; omega)) only [↓g_seq, ↓g_skip, ↓g_ret, ↓g_exit, ↓g_label, ↓g_block, ↓g_cond, ↓g_region, ctx_P, ↓nb_norm, nb_norm, ↓nb_ret, nb_ret, ↓nb_exit, nb_exit, bx_norm, bx_ret, bx_exit, beq_self_eq_true, ↓cb_t, cb_t, ↓cb_f, cb_f, ↓gb_t, gb_t, ↓gb_f, gb_f, ↓ob_some, ob_some, ↓hb_some, hb_some, ↓vb_some, vb_some, ↓xb_some, xb_some, ↓rb_some, rb_some, ↓fb_fn, fb_fn, ↓fin_norm, fin_norm, ↓fin_ret, fin_ret, ↓fin1_one, fin1_one, ↓fin1_nil, fin1_nil, ↓fin1_two, fin1_two, resl_nil, resl_tmp, resl_cell, vload_ptr, gdl_zero, gdl_succ, wv_bool, wv_tup, wd_some, ↓r_nil, ↓r_guard, ↓r_move, ↓r_assign, ↓r_bin, ↓r_un, ↓r_conv, ↓r_load, ↓r_store, ↓r_alloc, ↓r_box, ↓r_pick, ↓r_build, ↓r_buildSlice, ↓r_nilCheck, ↓r_nilCheck0, ↓r_makeFunc, ↓r_makeSlice, ↓r_slice, ↓r_fieldAddr, ↓r_field, ↓r_indexAddr, ↓r_index, ↓r_extract, extract_tup, ↓r_builtin, ↓r_call, put_some, put_none, ev_tmp, ev_const, ev_func, kill_t, kill_f, kill_nil, getD_zero, getD_succ, vpick_b, vstore_ptr, vnil_ptr, vnil_fn, evp_mk, constOp, undefV, l_map, l_map0, l_set0, l_set, l_get0, l_get, List.append_nil, l_app0, List.nil_append, l_app, l_rep, l_rep0, o_bind, Option.bind_some, Option.bind_none, o_map, o_mapn, c_t, c_f, if_true, if_false, reduceCtorEq, Bool.false_eq_true, Bool.or_true, Bool.true_or, Bool.or_false, Bool.false_or, Bool.not_true, Bool.not_false, ↓fo_cons, fo_cons, fo_nil, eq_self, decide_true, decide_false, Int.reduceEq, Int.reduceNe, Int.reduceLT, Int.reduceLE, Int.reduceNeg, Int.reduceToNat, Nat.reduceAdd, Nat.reduceMul, Nat.reduceEqDiff, Nat.reduceBEq, Int.toNat_natCast, Nat.zero_add, Nat.add_zero, Nat.mul_one, vb_add, vb_sub, vb_mul, vb_quo, vb_rem, vb_and, vb_or, vb_xor, vb_shl, vb_shr, vb_eql, vb_neq, vb_lss, vb_leq, vb_gtr, vb_geq, sb_some, ld1_mk, st1_mk, stA_all, ldA_all, blk_alloc_at, blk_alloc_other, blk_set_same, blk_set_other, Hp.next_alloc, Hp.next_set, set_set, alloc_put_at, newVar_agg, newVar_int, ld3, ld4, ld5, ld22, ld26, ld30, ld81, ld23, ld37, ld28, ld25, ld58, ld82, ld72, st3, st4, st5, st22, st26, st30, st81, st23, st37, st28, st25, st58, st82, st72, fa28_0, fa28_1, fa28_2, fa28_3, fa28_4, fa28_5, fa28_6, fa25_0, fa25_1, fa25_2, fa25_3, fa25_4, fa25_5, fa58_0, fa58_1, fa58_2, fa58_3, fa58_4, fa58_5, fa58_6, ix23, ln23, ln23n, cp23, cp23n, ix37, ln37, ln37n, cp37, cp37n, ix82, ix72, cv81_5, cv5_81, cv5_3, cv3_5, cv22_3, cv22_5, cv5_22, cv3_22, K22_0, K22_1, K22_2, K22_3, K22_4, K22_5, K22_6, K22_7, K22_8, K22_9, K22_10, K22_11, K22_12, K22_13, K22_14, K22_15, e]
  have p1 : ∀ (s : Int) (i : Nat) (z : V) (c : List Nat), [x, y][i]? = some z → i < 2 → By H z c → 0 ≤ s → s < 2 ^ 31 → c.length < 2 ^ 31 → ∀ r, 
      codeL ctx 22 (nth (fbody 22) [true, true, false, true, false]) [.sl N 0 0 2 2 true 1, .junk, .junk, .s (.int .i64 (s + c.length)), .junk, .junk, .junk, .junk, .junk, .sl N 0 0 2 2 true 1, .s (.int .i64 (2 : Nat)), .s (.int .i64 ((i + 1 : Nat) : Int)), .junk, .junk, .junk, .junk, .junk, .junk, .junk, .junk, .junk, .junk, .junk, .junk, .junk, .junk, .junk, .junk, .junk, .junk, .junk, .junk, .junk, .junk, .junk, .junk] H = r →
      codeL ctx 22 (nth (fbody 22) [true, true, false, true, false]) [.sl N 0 0 2 2 true 1, .junk, .junk, .s (.int .i64 s), .junk, .junk, .junk, .junk, .junk, .sl N 0 0 2 2 true 1, .s (.int .i64 (2 : Nat)), .s (.int .i64 (i : Int)), .junk, .junk, .junk, .junk, .junk, .junk, .junk, .junk, .junk, .junk, .junk, .junk, .junk, .junk, .junk, .junk, .junk, .junk, .junk, .junk, .junk, .junk, .junk, .junk] H = r := by
    intro s i z c hz hi hc hs hs' hc' r hr
    simp only [fb22, Tryd.f22, Option.getD_some, nth, cond_true, cond_false] at hr ⊢
    rw [loop_go]
    have e : decide ((i : Int) < ((2 : Nat) : Int)) = true := by simp; omega
    have e1 := ix37 N 0 0 2 2 true (i := (i : Int)) (by omega) (by omega)
    have e2 : ld1 (0 + (i : Int).toNat * 1) ⟨[x, y], 0, true, 23, true⟩ = some z := by rw [ld1_mk]; simpa using hz
    have e3 : IntKind.i64.wrap (s + (c.length : Int)) = s + c.length := w64 (by omega) (by omega)
    have e4 : decide (s + (c.length : Int) < 0) = false := by simp; omega
    have e5 : IntKind.i64.wrap ((i : Int) + 1) = ((i + 1 : Nat) : Int) := by rw [w64 (by omega) (by omega)]; rfl
    simp only [Int.toNat_natCast, Nat.mul_one, Nat.zero_add] at e1 e2
    simp (maxSteps := 5000000) (disch := first | assumption | omega | (refine id ?_; with_unfolding_all rfl) | (simp only [Hp.next_alloc, Hp.next_set, List.length_cons, List.length_nil]; omega)) only [↓g_seq, ↓g_skip, ↓g_ret, ↓g_exit, ↓g_label, ↓g_block, ↓g_cond, ↓g_region, ctx_P, ↓nb_norm, nb_norm, ↓nb_ret, nb_ret, ↓nb_exit, nb_exit, bx_norm, bx_ret, bx_exit, beq_self_eq_true, ↓cb_t, cb_t, ↓cb_f, cb_f, ↓gb_t, gb_t, ↓gb_f, gb_f, ↓ob_some, ob_some, ↓hb_some, hb_some, ↓vb_some, vb_some, ↓xb_some, xb_some, ↓rb_some, rb_some, ↓fb_fn, fb_fn, ↓fin_norm, fin_norm, ↓fin_ret, fin_ret, ↓fin1_one, fin1_one, ↓fin1_nil, fin1_nil, ↓fin1_two, fin1_two, resl_nil, resl_tmp, resl_cell, vload_ptr, gdl_zero, gdl_succ, wv_bool, wv_tup, wd_some, ↓r_nil, ↓r_guard, ↓r_move, ↓r_assign, ↓r_bin, ↓r_un, ↓r_conv, ↓r_load, ↓r_store, ↓r_alloc, ↓r_box, ↓r_pick, ↓r_build, ↓r_buildSlice, ↓r_nilCheck, ↓r_nilCheck0, ↓r_makeFunc, ↓r_makeSlice, ↓r_slice, ↓r_fieldAddr, ↓r_field, ↓r_indexAddr, ↓r_index, ↓r_extract, extract_tup, ↓r_builtin, ↓r_call, put_some, put_none, ev_tmp, ev_const, ev_func, kill_t, kill_f, kill_nil, getD_zero, getD_succ, vpick_b, vstore_ptr, vnil_ptr, vnil_fn, evp_mk, constOp, undefV, l_map, l_map0, l_set0, l_set, l_get0, l_get, List.append_nil, l_app0, List.nil_append, l_app, l_rep, l_rep0, o_bind, Option.bind_some, Option.bind_none, o_map, o_mapn, c_t, c_f, if_true, if_false, reduceCtorEq, Bool.false_eq_true, Bool.or_true, Bool.true_or, Bool.or_false, Bool.false_or, Bool.not_true, Bool.not_false, ↓fo_cons, fo_cons, fo_nil, eq_self, decide_true, decide_false, Int.reduceEq, Int.reduceNe, Int.reduceLT, Int.reduceLE, Int.reduceNeg, Int.reduceToNat, Nat.reduceAdd, Nat.reduceMul, Nat.reduceEqDiff, Nat.reduceBEq, Int.toNat_natCast, Nat.zero_add, Nat.add_zero, Nat.mul_one, vb_add, vb_sub, vb_mul, vb_quo, vb_rem, vb_and, vb_or, vb_xor, vb_shl, vb_shr, vb_eql, vb_neq, vb_lss, vb_leq, vb_gtr, vb_geq, sb_some, ld1_mk, st1_mk, stA_all, ldA_all, blk_alloc_at, blk_alloc_other, blk_set_same, blk_set_other, Hp.next_alloc, Hp.next_set, set_set, alloc_put_at, newVar_agg, newVar_int, ld3, ld4, ld5, ld22, ld26, ld30, ld81, ld23, ld37, ld28, ld25, ld58, ld82, ld72, st3, st4, st5, st22, st26, st30, st81, st23, st37, st28, st25, st58, st82, st72, fa28_0, fa28_1, fa28_2, fa28_3, fa28_4, fa28_5, fa28_6, fa25_0, fa25_1, fa25_2, fa25_3, fa25_4, fa25_5, fa58_0, fa58_1, fa58_2, fa58_3, fa58_4, fa58_5, fa58_6, ix23, ln23, ln23n, cp23, cp23n, ix37, ln37, ln37n, cp37, cp37n, ix82, ix72, cv81_5, cv5_81, cv5_3, cv3_5, cv22_3, cv22_5, cv5_22, cv3_22, K22_0, K22_1, K22_2, K22_3, K22_4, K22_5, K22_6, K22_7, K22_8, K22_9, K22_10, K22_11, K22_12, K22_13, K22_14, K22_15, e, e1, hb, e2, hc.len, e3, e4, e5, ↓hr]
  have L1 : codeL ctx 22 (nth (fbody 22) [true, true, false, true, false]) [.sl N 0 0 2 2 true 1, .junk, .junk, .s (.int .i64 0), .junk, .junk, .junk, .junk, .junk, .sl N 0 0 2 2 true 1, .s (.int .i64 (2 : Nat)), .s (.int .i64 0), .junk, .junk, .junk, .junk, .junk, .junk, .junk, .junk, .junk, .junk, .junk, .junk, .junk, .junk, .junk, .junk, .junk, .junk, .junk, .junk, .junk, .junk, .junk, .junk] H =
      some (.exit 0, [.sl N 0 0 2 2 true 1, .junk, .junk, .s (.int .i64 ((a.length + b.length : Nat) : Int)), .junk, .junk, .junk, .junk, .junk, .sl N 0 0 2 2 true 1, .s (.int .i64 (2 : Nat)), .s (.int .i64 2), .s (.bool false), .junk, .junk, .junk, .junk, .junk, .junk, .junk, .junk, .junk, .junk, .junk, .junk, .junk, .junk, .junk, .junk, .junk, .junk, .junk, .junk, .junk, .junk, .junk], H) := by
    refine p1 0 0 x a rfl (by omega) hx (by omega) (by omega) (by omega) _ ?_
    refine p1 (0 + a.length) 1 y b rfl (by omega) hy (by omega) (by omega) (by omega) _ ?_
    rw [show (0 + (a.length : Int) + (b.length : Int)) = ((a.length + b.length : Nat) : Int) by omega]
    exact p2 _
  -- what is appended
  have q2 : ∀ (l : List Nat) (G : Hp), codeL ctx 22 (nth (fbody 22) [true, true, true, true, false, true, false]) [.junk, .junk, .junk, .junk, .junk, .junk, .sl H.next 0 0 l.length 0 false 1, .junk, .junk, .junk, .junk, .junk, .junk, .junk, .junk, .junk, .junk, .junk, .junk, .junk, .junk, .junk, .junk, .junk, .junk, .sl N 0 0 2 2 true 1, .s (.int .i64 (2 : Nat)), .s (.int .i64 2), .junk, .junk, .junk, .junk, .junk, .junk, .junk, .junk] G =
      some (.exit 2, [.junk, .junk, .junk, .junk, .junk, .junk, .sl H.next 0 0 l.length 0 false 1, .junk, .junk, .junk, .junk, .junk, .junk, .junk, .junk, .junk, .junk, .junk, .junk, .junk, .junk, .junk, .junk, .junk, .junk, .sl N 0 0 2 2 true 1, .s (.int .i64 (2 : Nat)), .s (.int .i64 2), .s (.bool false), .junk, .junk, .junk, .junk, .junk, .junk, .junk], G) := by
    intro l G
    simp only [fb22, Tryd.f22, Option.getD_some, nth, cond_true, cond_false]
    rw [loop_go]
    have e : decide ((2 : Int) < ((2 : Nat) : Int)) = false := rfl
    simp (maxSteps := 5000000) (disch := first | assumption | omega | (refine id ?_; with_unfolding_all rfl) | (simp only [Hp.next_alloc, Hp.next_set, List.length_cons, List.length_nil]; omega)) only [↓g_seq, ↓g_skip, ↓g_ret, ↓g_exit, ↓g_label, ↓g_block, ↓g_cond, ↓g_region, ctx_P, ↓nb_norm, nb_norm, ↓nb_ret, nb_ret, ↓nb_exit, nb_exit, bx_norm, bx_ret, bx_exit, beq_self_eq_true, ↓cb_t, cb_t, ↓cb_f, cb_f, ↓gb_t, gb_t, ↓gb_f, gb_f, ↓ob_some, ob_some, ↓hb_some, hb_some, ↓vb_some, vb_some, ↓xb_some, xb_some, ↓rb_some, rb_some, ↓fb_fn, fb_fn, ↓fin_norm, fin_norm, ↓fin_ret, fin_ret, ↓fin1_one, fin1_one, ↓fin1_nil, fin1_nil, ↓fin1_two, fin1_two, resl_nil, resl_tmp, resl_cell, vload_ptr, gdl_zero, gdl_succ, wv_bool, wv_tup, wd_some, ↓r_nil, ↓r_guard, ↓r_move, ↓r_assign, ↓r_bin, ↓r_un, ↓r_conv, ↓r_load, ↓r_store, ↓r_alloc, ↓r_box, ↓r_pick, ↓r_build, ↓r_buildSlice, ↓r_nilCheck, ↓r_nilCheck0, ↓r_makeFunc, ↓r_makeSlice, ↓r_slice, ↓r_fieldAddr, ↓r_field, ↓r_indexAddr, ↓r_index, ↓r_extract, extract_tup, ↓r_builtin, ↓r_call, put_some, put_none, ev_tmp, ev_const, ev_func, kill_t, kill_f, kill_nil, getD_zero, getD_succ, vpick_b, vstore_ptr, vnil_ptr, vnil_fn, evp_mk, constOp, undefV, l_map, l_map0, l_set0, l_set, l_get0, l_get, List.append_nil, l_app0, List.nil_append, l_app, l_rep, l_rep0, o_bind, Option.bind_some, Option.bind_none, o_map, o_mapn, c_t, c_f, if_true, if_false, reduceCtorEq, Bool.false_eq_true, Bool.or_true, Bool.true_or, Bool.or_false, Bool.false_or, Bool.not_true, Bool.not_false, ↓fo_cons, fo_cons, fo_nil, eq_self, decide_true, decide_false, Int.reduceEq, Int.reduceNe, Int.reduceLT, Int.reduceLE, Int.reduceNeg, Int.reduceToNat, Nat.reduceAdd, Nat.reduceMul, Nat.reduceEqDiff, Nat.reduceBEq, Int.toNat_natCast, Nat.zero_add, Nat.add_zero, Nat.mul_one, vb_add, vb_sub, vb_mul, vb_quo, vb_rem, vb_and, vb_or, vb_xor, vb_shl, vb_shr, vb_eql, vb_neq, vb_lss, vb_leq, vb_gtr, vb_geq, sb_some, ld1_mk, st1_mk, stA_all, ldA_all, blk_alloc_at, blk_alloc_other, blk_set_same, blk_set_other, Hp.next_alloc, Hp.next_set, set_set, alloc_put_at, newVar_agg, newVar_int, ld3, ld4, ld5, ld22, ld26, ld30, ld81, ld23, ld37, ld28, ld25, ld58, ld82, ld72, st3, st4, st5, st22, st26, st30, st81, st23, st37, st28, st25, st58, st82, st72, fa28_0, fa28_1, fa28_2, fa28_3, fa28_4, fa28_5, fa28_6, fa25_0, fa25_1, fa25_2, fa25_3, fa25_4, fa25_5, fa58_0, fa58_1, fa58_2, fa58_3, fa58_4, fa58_5, fa58_6, ix23, ln23, ln23n, cp23, cp23n, ix37, ln37, ln37n, cp37, cp37n, ix82, ix72, cv81_5, cv5_81, cv5_3, cv3_5, cv22_3, cv22_5, cv5_22, cv3_22, K22_0, K22_1, K22_2, K22_3, K22_4, K22_5, K22_6, K22_7, K22_8, K22_9, K22_10, K22_11, K22_12, K22_13, K22_14, K22_15, e]
  have q1 : ∀ (l : List Nat) (r : List V) (G : Hp) (i : Nat) (z : V) (c : List Nat), [x, y][i]? = some z → i < 2 → By G z c → Own G H.next 0 l r → c.length ≤ r.length → blk G N 0 = some ⟨[x, y], 0, true, 23, true⟩ →
      ∃ G', Own G' H.next 0 (l ++ c) (r.drop c.length) ∧ G'.next = G.next ∧ (∀ k, k ≠ H.next → G'.get k = G.get k) ∧ ∀ R,
      codeL ctx 22 (nth (fbody 22) [true, true, true, true, false, true, false]) [.junk, .junk, .junk, .junk, .junk, .junk, .sl H.next 0 0 (l ++ c).length 0 false 1, .junk, .junk, .junk, .junk, .junk, .junk, .junk, .junk, .junk, .junk, .junk, .junk, .junk, .junk, .junk, .junk, .junk, .junk, .sl N 0 0 2 2 true 1, .s (.int .i64 (2 : Nat)), .s (.int .i64 ((i + 1 : Nat) : Int)), .junk, .junk, .junk, .junk, .junk, .junk, .junk, .junk] G' = R →
      codeL ctx 22 (nth (fbody 22) [true, true, true, true, false, true, false]) [.junk, .junk, .junk, .junk, .junk, .junk, .sl H.next 0 0 l.length 0 false 1, .junk, .junk, .junk, .junk, .junk, .junk, .junk, .junk, .junk, .junk, .junk, .junk, .junk, .junk, .junk, .junk, .junk, .junk, .sl N 0 0 2 2 true 1, .s (.int .i64 (2 : Nat)), .s (.int .i64 (i : Int)), .junk, .junk, .junk, .junk, .junk, .junk, .junk, .junk] G = R := by
    intro l r G i z c hz hi hc ho hr hbG
    obtain ⟨G', h1, h2, h3, h4⟩ := app_in ho hc.flen hc.first hc.noint hr rfl rfl
    refine ⟨G', h2, h3, h4, fun R hR => ?_⟩
    simp only [fb22, Tryd.f22, Option.getD_some, nth, cond_true, cond_false] at hR ⊢
    rw [loop_go]
    have e : decide ((i : Int) < ((2 : Nat) : Int)) = true := by simp; omega
    have e1 := ix37 N 0 0 2 2 true (i := (i : Int)) (by omega) (by omega)
    have e2 : ld1 (0 + (i : Int).toNat * 1) ⟨[x, y], 0, true, 23, true⟩ = some z := by rw [ld1_mk]; simpa using hz
    have e5 : IntKind.i64.wrap ((i : Int) + 1) = ((i + 1 : Nat) : Int) := by rw [w64 (by omega) (by omega)]; rfl
    simp only [Int.toNat_natCast, Nat.mul_one, Nat.zero_add] at e1 e2
    simp (maxSteps := 5000000) (disch := first | assumption | omega | (refine id ?_; with_unfolding_all rfl) | (simp only [Hp.next_alloc, Hp.next_set, List.length_cons, List.length_nil]; omega)) only [↓g_seq, ↓g_skip, ↓g_ret, ↓g_exit, ↓g_label, ↓g_block, ↓g_cond, ↓g_region, ctx_P, ↓nb_norm, nb_norm, ↓nb_ret, nb_ret, ↓nb_exit, nb_exit, bx_norm, bx_ret, bx_exit, beq_self_eq_true, ↓cb_t, cb_t, ↓cb_f, cb_f, ↓gb_t, gb_t, ↓gb_f, gb_f, ↓ob_some, ob_some, ↓hb_some, hb_some, ↓vb_some, vb_some, ↓xb_some, xb_some, ↓rb_some, rb_some, ↓fb_fn, fb_fn, ↓fin_norm, fin_norm, ↓fin_ret, fin_ret, ↓fin1_one, fin1_one, ↓fin1_nil, fin1_nil, ↓fin1_two, fin1_two, resl_nil, resl_tmp, resl_cell, vload_ptr, gdl_zero, gdl_succ, wv_bool, wv_tup, wd_some, ↓r_nil, ↓r_guard, ↓r_move, ↓r_assign, ↓r_bin, ↓r_un, ↓r_conv, ↓r_load, ↓r_store, ↓r_alloc, ↓r_box, ↓r_pick, ↓r_build, ↓r_buildSlice, ↓r_nilCheck, ↓r_nilCheck0, ↓r_makeFunc, ↓r_makeSlice, ↓r_slice, ↓r_fieldAddr, ↓r_field, ↓r_indexAddr, ↓r_index, ↓r_extract, extract_tup, ↓r_builtin, ↓r_call, put_some, put_none, ev_tmp, ev_const, ev_func, kill_t, kill_f, kill_nil, getD_zero, getD_succ, vpick_b, vstore_ptr, vnil_ptr, vnil_fn, evp_mk, constOp, undefV, l_map, l_map0, l_set0, l_set, l_get0, l_get, List.append_nil, l_app0, List.nil_append, l_app, l_rep, l_rep0, o_bind, Option.bind_some, Option.bind_none, o_map, o_mapn, c_t, c_f, if_true, if_false, reduceCtorEq, Bool.false_eq_true, Bool.or_true, Bool.true_or, Bool.or_false, Bool.false_or, Bool.not_true, Bool.not_false, ↓fo_cons, fo_cons, fo_nil, eq_self, decide_true, decide_false, Int.reduceEq, Int.reduceNe, Int.reduceLT, Int.reduceLE, Int.reduceNeg, Int.reduceToNat, Nat.reduceAdd, Nat.reduceMul, Nat.reduceEqDiff, Nat.reduceBEq, Int.toNat_natCast, Nat.zero_add, Nat.add_zero, Nat.mul_one, vb_add, vb_sub, vb_mul, vb_quo, vb_rem, vb_and, vb_or, vb_xor, vb_shl, vb_shr, vb_eql, vb_neq, vb_lss, vb_leq, vb_gtr, vb_geq, sb_some, ld1_mk, st1_mk, stA_all, ldA_all, blk_alloc_at, blk_alloc_other, blk_set_same, blk_set_other, Hp.next_alloc, Hp.next_set, set_set, alloc_put_at, newVar_agg, newVar_int, ld3, ld4, ld5, ld22, ld26, ld30, ld81, ld23, ld37, ld28, ld25, ld58, ld82, ld72, st3, st4, st5, st22, st26, st30, st81, st23, st37, st28, st25, st58, st82, st72, fa28_0, fa28_1, fa28_2, fa28_3, fa28_4, fa28_5, fa28_6, fa25_0, fa25_1, fa25_2, fa25_3, fa25_4, fa25_5, fa58_0, fa58_1, fa58_2, fa58_3, fa58_4, fa58_5, fa58_6, ix23, ln23, ln23n, cp23, cp23n, ix37, ln37, ln37n, cp37, cp37n, ix82, ix72, cv81_5, cv5_81, cv5_3, cv3_5, cv22_3, cv22_5, cv5_22, cv3_22, K22_0, K22_1, K22_2, K22_3, K22_4, K22_5, K22_6, K22_7, K22_8, K22_9, K22_10, K22_11, K22_12, K22_13, K22_14, K22_15, e, e1, hbG, e2, h1, e5, ↓hR]
  have hg := grow (a.length + b.length) h0 (by omega) H
  have ho : Own (H.alloc (List.replicate (a.length + b.length) (.s (.int .u8 0))) 5) H.next 0 [] (List.replicate (a.length + b.length) (.s (.int .u8 0))) := by
    unfold Own; rw [Hp.get_alloc_same]; rfl
  have hfr := Fr.alloc H (List.replicate (a.length + b.length) (.s (.int .u8 0))) 5
  have hb0 : blk (H.alloc (List.replicate (a.length + b.length) (.s (.int .u8 0))) 5) N 0 = some ⟨[x, y], 0, true, 23, true⟩ := by rw [blk_get (hfr.2 N hNn)]; exact hb
  obtain ⟨G1, a1, a2, a3, a4⟩ := q1 [] _ _ 0 x a rfl (by omega) (hx.fr hfr (Nat.le_refl _)) ho (by simp) hb0
  have hf1 : Fr H.next H G1 := ⟨by rw [a2]; exact hfr.1, fun k hk => (a3 k (by omega)).trans (hfr.2 k hk)⟩
  obtain ⟨G2, b1, b2, b3, b4⟩ := q1 _ _ G1 1 y b rfl (by omega) (hy.fr hf1 (Nat.le_refl _)) a1 (by simp) (by rw [blk_get (hf1.2 N hNn)]; exact hb)
  have hf2 : Fr H.next H G2 := ⟨by rw [b2]; exact hf1.1, fun k hk => (b3 k (by omega)).trans (hf1.2 k hk)⟩
  have L2 := a4 _ (b4 _ (q2 _ G2))
  simp only [List.nil_append, List.length_nil] at L2 b1
  refine ⟨G2, ?_, ?_, by rw [b2, a2]; rfl, hf2⟩
  · rw [cg22]; simp only [fb22, Tryd.f22, Option.getD_some, nth, cond_true, cond_false] at L1 L2 ⊢
    have z0 : ((0 : Nat) : Int) = 0 := rfl
    rw [z0] at L2
    simp (maxSteps := 5000000) (disch := first | assumption | omega | (refine id ?_; with_unfolding_all rfl) | (simp only [Hp.next_alloc, Hp.next_set, List.length_cons, List.length_nil]; omega)) only [↓g_seq, ↓g_skip, ↓g_ret, ↓g_exit, ↓g_label, ↓g_block, ↓g_cond, ↓g_region, ctx_P, ↓nb_norm, nb_norm, ↓nb_ret, nb_ret, ↓nb_exit, nb_exit, bx_norm, bx_ret, bx_exit, beq_self_eq_true, ↓cb_t, cb_t, ↓cb_f, cb_f, ↓gb_t, gb_t, ↓gb_f, gb_f, ↓ob_some, ob_some, ↓hb_some, hb_some, ↓vb_some, vb_some, ↓xb_some, xb_some, ↓rb_some, rb_some, ↓fb_fn, fb_fn, ↓fin_norm, fin_norm, ↓fin_ret, fin_ret, ↓fin1_one, fin1_one, ↓fin1_nil, fin1_nil, ↓fin1_two, fin1_two, resl_nil, resl_tmp, resl_cell, vload_ptr, gdl_zero, gdl_succ, wv_bool, wv_tup, wd_some, ↓r_nil, ↓r_guard, ↓r_move, ↓r_assign, ↓r_bin, ↓r_un, ↓r_conv, ↓r_load, ↓r_store, ↓r_alloc, ↓r_box, ↓r_pick, ↓r_build, ↓r_buildSlice, ↓r_nilCheck, ↓r_nilCheck0, ↓r_makeFunc, ↓r_makeSlice, ↓r_slice, ↓r_fieldAddr, ↓r_field, ↓r_indexAddr, ↓r_index, ↓r_extract, extract_tup, ↓r_builtin, ↓r_call, put_some, put_none, ev_tmp, ev_const, ev_func, kill_t, kill_f, kill_nil, getD_zero, getD_succ, vpick_b, vstore_ptr, vnil_ptr, vnil_fn, evp_mk, constOp, undefV, l_map, l_map0, l_set0, l_set, l_get0, l_get, List.append_nil, l_app0, List.nil_append, l_app, l_rep, l_rep0, o_bind, Option.bind_some, Option.bind_none, o_map, o_mapn, c_t, c_f, if_true, if_false, reduceCtorEq, Bool.false_eq_true, Bool.or_true, Bool.true_or, Bool.or_false, Bool.false_or, Bool.not_true, Bool.not_false, ↓fo_cons, fo_cons, fo_nil, eq_self, decide_true, decide_false, Int.reduceEq, Int.reduceNe, Int.reduceLT, Int.reduceLE, Int.reduceNeg, Int.reduceToNat, Nat.reduceAdd, Nat.reduceMul, Nat.reduceEqDiff, Nat.reduceBEq, Int.toNat_natCast, Nat.zero_add, Nat.add_zero, Nat.mul_one, vb_add, vb_sub, vb_mul, vb_quo, vb_rem, vb_and, vb_or, vb_xor, vb_shl, vb_shr, vb_eql, vb_neq, vb_lss, vb_leq, vb_gtr, vb_geq, sb_some, ld1_mk, st1_mk, stA_all, ldA_all, blk_alloc_at, blk_alloc_other, blk_set_same, blk_set_other, Hp.next_alloc, Hp.next_set, set_set, alloc_put_at, newVar_agg, newVar_int, ld3, ld4, ld5, ld22, ld26, ld30, ld81, ld23, ld37, ld28, ld25, ld58, ld82, ld72, st3, st4, st5, st22, st26, st30, st81, st23, st37, st28, st25, st58, st82, st72, fa28_0, fa28_1, fa28_2, fa28_3, fa28_4, fa28_5, fa28_6, fa25_0, fa25_1, fa25_2, fa25_3, fa25_4, fa25_5, fa58_0, fa58_1, fa58_2, fa58_3, fa58_4, fa58_5, fa58_6, ix23, ln23, ln23n, cp23, cp23n, ix37, ln37, ln37n, cp37, cp37n, ix82, ix72, cv81_5, cv5_81, cv5_3, cv3_5, cv22_3, cv22_5, cv5_22, cv3_22, K22_0, K22_1, K22_2, K22_3, K22_4, K22_5, K22_6, K22_7, K22_8, K22_9, K22_10, K22_11, K22_12, K22_13, K22_14, K22_15, ↓g_loop, ↓L1, ↓L2, hg]
  · have : (List.drop b.length (List.drop a.length (List.replicate (a.length + b.length) (V.s (Value.int .u8 0))))) = [] := by
      rw [List.drop_drop]; apply List.drop_eq_nil_of_le; simp
    rw [this] at b1; exact b1
end Go.Proofs.YtnicmcdnpeimoaaDoor
