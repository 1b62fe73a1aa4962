/-
  Stuffing and framing.
-/
import Derived.Test.YtnicmcdnpeimoaaDoorB4
set_option linter.unusedVariables false
set_option linter.unusedSimpArgs false
set_option maxRecDepth 100000
set_option maxHeartbeats 4000000
namespace Go.Proofs.YtnicmcdnpeimoaaDoor
open Go.Am
attribute [local congr] fo_first sb_first ob_first hb_first vb_first xb_first cb_first nb_first gb_first fb_first rb_first db_first run_first go_first codeL_first

/-- The stuffed stream behind so many ones. -/
def stuff : Nat → List Nat → List Nat
  | _, [] => []
  | o, b :: r => b :: (if b = 0 then stuff 0 r else if o + 1 = 5 then 0 :: stuff 0 r else stuff (o + 1) r)

theorem bs1_23 (H : Hp) (x : Int) : vbuildSlice Tryd.prog H 23 1 [(0, .s (.int .u8 x))] = some (.sl H.next 0 0 1 1 true 1, H.alloc [.s (.int .u8 x)] 5) := by
  obtain ⟨i, h1, h2, h3, h4⟩ := info5
  have hz : (Value.int IntKind.u8 0).cells = #[Value.int IntKind.u8 0] := rfl
  simp [vbuildSlice, Tryd.underlying23, h1, h2, h3, hz, fill, zc5, V.cells, splice]
theorem bs2_23 (H : Hp) (x y : Int) : vbuildSlice Tryd.prog H 23 2 [(0, .s (.int .u8 x)), (1, .s (.int .u8 y))] = some (.sl H.next 0 0 2 2 true 1, H.alloc [.s (.int .u8 x), .s (.int .u8 y)] 5) := by
  obtain ⟨i, h1, h2, h3, h4⟩ := info5
  have hz : (Value.int IntKind.u8 0).cells = #[Value.int IntKind.u8 0] := rfl
  simp [vbuildSlice, Tryd.underlying23, h1, h2, h3, hz, fill, zc5, V.cells, splice]
theorem bs3_23 (H : Hp) (x y z : Int) : vbuildSlice Tryd.prog H 23 3 [(0, .s (.int .u8 x)), (1, .s (.int .u8 y)), (2, .s (.int .u8 z))] = some (.sl H.next 0 0 3 3 true 1, H.alloc [.s (.int .u8 x), .s (.int .u8 y), .s (.int .u8 z)] 5) := by
  obtain ⟨i, h1, h2, h3, h4⟩ := info5
  have hz : (Value.int IntKind.u8 0).cells = #[Value.int IntKind.u8 0] := rfl
  simp [vbuildSlice, Tryd.underlying23, h1, h2, h3, hz, fill, zc5, V.cells, splice]

/-- One octet more. -/
theorem app_b {H : Hp} {n g : Nat} {l : List Nat} (ho : Own H n g l []) (hn : n < H.next) (b : Nat) (hl : l.length < 2 ^ 39) {len : Nat} (hlen : len = l.length) {len2 : Nat} (hlen2 : len2 = (l ++ [b]).length) :
    ∃ g' H', vbuiltin Tryd.prog (H.alloc [.s (.int .u8 b)] 5) .append #[23, 23] [.sl n g 0 len 0 false 1, .sl H.next 0 0 1 1 true 1] = some (.sl n g' 0 len2 0 false 1, H') ∧ Own H' n g' (l ++ [b]) [] ∧ H'.next = H.next + 1 ∧ Fr n H H' := by
  have hf0 := Fr.alloc H [.s (.int .u8 b)] 5
  have hs1 : Sl (H.alloc [.s (.int .u8 b)] 5) H.next 0 0 [b] := (Own.of_alloc H [b]).sl
  obtain ⟨g1, G1, a1, a2, a3, a4⟩ := app_mv (ho.fr hf0 hn) (flen_sl H.next 0 0 _ 1 true 1) (first_sl hs1 (cap := 1) (ex := true)) (by simp) (by simp; omega) hlen hlen2
  exact ⟨g1, G1, a1, a2, by rw [a3]; rfl, by rw [a3]; exact hf0.1, fun j hj => (a4 j (by omega)).trans (hf0.2 j (by omega))⟩

theorem stuffed_loop {l : List Nat} (hb : ∀ x ∈ l, x < 2) (hl : l.length < 2 ^ 24) (n g off cap : Nat) (ex : Bool) (M : Nat) (hnM : n < M) : ∀ (d k : Nat) (G : Hp) (g' o : Nat) (acc : List Nat), k + d = l.length → o < 5 → acc.length + 2 * d < 2 ^ 26 → Sl G n g off l → Own G M g' acc [] → M < G.next →
    ∃ g'' G' o' r17, Own G' M g'' (acc ++ stuff o (l.drop k)) [] ∧ M < G'.next ∧ Fr M G G' ∧
    codeL ctx 39 (nth (fbody 39) [true, true, true, false, true, false]) [.junk, .junk, .junk, .sl M g' 0 acc.length 0 false 1, .s (.int .i64 o), .junk, .junk, .junk, .junk, .junk, .junk, .junk, .junk, .junk, .sl n g off l.length cap ex 1, .s (.int .i64 l.length), .s (.int .i64 k), .junk, .junk, .junk, .junk, .junk, .junk, .junk, .junk, .junk, .junk, .junk, .junk, .junk, .junk, .junk, .junk, .junk, .junk, .junk] G =
      some (.exit 0, [.junk, .junk, .junk, .sl M g'' 0 (acc ++ stuff o (l.drop k)).length 0 false 1, .s (.int .i64 o'), .junk, .junk, .junk, .junk, .junk, .junk, .junk, .junk, .junk, .sl n g off l.length cap ex 1, .s (.int .i64 l.length), .s (.int .i64 l.length), r17, .junk, .junk, .junk, .junk, .junk, .junk, .junk, .junk, .junk, .junk, .junk, .junk, .junk, .junk, .junk, .junk, .junk, .junk], G') := by
  intro d
  induction d with
  | zero =>
    intro k G g' o acc hk ho5 hacc hs ho hM
    obtain rfl : k = l.length := by omega
    rw [List.drop_length]
    simp only [stuff, List.append_nil]
    refine ⟨g', G, o, .s (.bool false), ho, hM, Fr.refl _ _, ?_⟩
    simp only [fb39, Tryd.f39, Option.getD_some, nth, cond_true, cond_false]
    rw [loop_go]
    have e : decide ((l.length : Int) < l.length) = false := by simp
    simp (maxSteps := 5000000) (disch := first | assumption | omega | (refine id ?_; with_unfolding_all rfl) | (simp only [Hp.next_alloc, Hp.next_set, List.length_cons, List.length_nil]; omega)) only [↓g_seq, ↓g_skip, ↓g_ret, ↓g_exit, ↓g_label, ↓g_block, ↓g_cond, ↓g_region, ctx_P, ↓nb_norm, nb_norm, ↓nb_ret, nb_ret, ↓nb_exit, nb_exit, bx_norm, bx_ret, bx_exit, beq_self_eq_true, ↓cb_t, cb_t, ↓cb_f, cb_f, ↓gb_t, gb_t, ↓gb_f, gb_f, ↓ob_some, ob_some, ↓hb_some, hb_some, ↓vb_some, vb_some, ↓xb_some, xb_some, ↓rb_some, rb_some, ↓fb_fn, fb_fn, ↓fin_norm, fin_norm, ↓fin_ret, fin_ret, ↓fin1_one, fin1_one, ↓fin1_nil, fin1_nil, ↓fin1_two, fin1_two, resl_nil, resl_tmp, resl_cell, vload_ptr, gdl_zero, gdl_succ, wv_bool, wv_tup, wd_some, ↓r_nil, ↓r_guard, ↓r_move, ↓r_assign, ↓r_bin, ↓r_un, ↓r_conv, ↓r_load, ↓r_store, ↓r_alloc, ↓r_box, ↓r_pick, ↓r_build, ↓r_buildSlice, ↓r_nilCheck, ↓r_nilCheck0, ↓r_makeFunc, ↓r_makeSlice, ↓r_slice, ↓r_fieldAddr, ↓r_field, ↓r_indexAddr, ↓r_index, ↓r_extract, extract_tup, ↓r_builtin, ↓r_call, put_some, put_none, ev_tmp, ev_const, ev_func, kill_t, kill_f, kill_nil, getD_zero, getD_succ, vpick_b, vstore_ptr, vnil_ptr, vnil_fn, evp_mk, constOp, undefV, l_map, l_map0, l_set0, l_set, l_get0, l_get, List.append_nil, l_app0, List.nil_append, l_app, l_rep, l_rep0, o_bind, Option.bind_some, Option.bind_none, o_map, o_mapn, c_t, c_f, if_true, if_false, reduceCtorEq, Bool.false_eq_true, Bool.or_true, Bool.true_or, Bool.or_false, Bool.false_or, Bool.not_true, Bool.not_false, ↓fo_cons, fo_cons, fo_nil, eq_self, decide_true, decide_false, Int.reduceEq, Int.reduceNe, Int.reduceLT, Int.reduceLE, Int.reduceNeg, Int.reduceToNat, Nat.reduceAdd, Nat.reduceMul, Nat.reduceEqDiff, Nat.reduceBEq, Int.toNat_natCast, Nat.zero_add, Nat.add_zero, Nat.mul_one, vb_add, vb_sub, vb_mul, vb_quo, vb_rem, vb_and, vb_or, vb_xor, vb_shl, vb_shr, vb_eql, vb_neq, vb_lss, vb_leq, vb_gtr, vb_geq, sb_some, ld1_mk, st1_mk, stA_all, ldA_all, blk_alloc_at, blk_alloc_other, blk_set_same, blk_set_other, Hp.next_alloc, Hp.next_set, set_set, alloc_put_at, newVar_agg, newVar_int, ld3, ld4, ld5, ld22, ld26, ld30, ld81, ld23, ld37, ld28, ld25, ld58, ld82, ld72, st3, st4, st5, st22, st26, st30, st81, st23, st37, st28, st25, st58, st82, st72, fa28_0, fa28_1, fa28_2, fa28_3, fa28_4, fa28_5, fa28_6, fa25_0, fa25_1, fa25_2, fa25_3, fa25_4, fa25_5, fa58_0, fa58_1, fa58_2, fa58_3, fa58_4, fa58_5, fa58_6, ix23, ln23, ln23n, cp23, cp23n, ix37, ln37, ln37n, cp37, cp37n, ix82, ix72, cv81_5, cv5_81, cv5_3, cv3_5, cv22_3, cv22_5, cv5_22, cv3_22, K39_0, K39_1, K39_2, K39_3, K39_4, K39_5, K39_6, K39_7, K39_8, K39_9, K39_10, K39_11, K39_12, K39_13, K39_14, e]
  | succ d ih =>
    intro k G g' o acc hk ho5 hacc hs ho hM
    have hkl : k < l.length := by omega
    have hx : l[k] < 2 := hb _ (List.getElem_mem hkl)
    rw [List.drop_eq_getElem_cons hkl]
    obtain ⟨g1, G1, a1, a2, a3, a4⟩ := app_b ho hM l[k] (by omega) rfl rfl
    have e : decide ((k : Int) < l.length) = true := by simp; omega
    have e1 := ix23 n g off l.length cap ex (i := (k : Int)) (by omega) (by omega)
    have e2 := hs.at hkl
    have e5 : IntKind.i64.wrap ((k : Int) + 1) = ((k + 1 : Nat) : Int) := by rw [w64 (by omega) (by omega)]; rfl
    have e6 : IntKind.i64.wrap ((o : Int) + 1) = ((o + 1 : Nat) : Int) := by rw [w64 (by omega) (by omega)]; rfl
    simp only [Int.toNat_natCast, Nat.mul_one] at e1
    have hs1 := hs.fr a4 hnM
    by_cases hz : l[k] = 0
    · obtain ⟨g2, G2, o2, r2, b1, b2, b3, b4⟩ := ih (k + 1) G1 g1 0 (acc ++ [l[k]]) (by omega) (by omega) (by simp; omega) hs1 a2 (by omega)
      have hst : acc ++ stuff o (l[k] :: l.drop (k + 1)) = acc ++ [l[k]] ++ stuff 0 (l.drop (k + 1)) := by simp [stuff, hz]
      refine ⟨g2, G2, o2, r2, by rw [hst]; exact b1, b2, a4.trans b3, ?_⟩
      rw [hst]
      simp only [fb39, Tryd.f39, Option.getD_some, nth, cond_true, cond_false] at b4 ⊢
      rw [loop_go]
      have z0 : ((0 : Nat) : Int) = 0 := rfl
      have c1 : decide (((l[k] : Nat) : Int) = 0) = true := by simp; omega
      have c2 : decide ((0 : Int) = 5) = false := rfl
      rw [z0] at b4
      simp (maxSteps := 5000000) (disch := first | assumption | omega | (refine id ?_; with_unfolding_all rfl) | (simp only [Hp.next_alloc, Hp.next_set, List.length_cons, List.length_nil]; omega)) only [↓g_seq, ↓g_skip, ↓g_ret, ↓g_exit, ↓g_label, ↓g_block, ↓g_cond, ↓g_region, ctx_P, ↓nb_norm, nb_norm, ↓nb_ret, nb_ret, ↓nb_exit, nb_exit, bx_norm, bx_ret, bx_exit, beq_self_eq_true, ↓cb_t, cb_t, ↓cb_f, cb_f, ↓gb_t, gb_t, ↓gb_f, gb_f, ↓ob_some, ob_some, ↓hb_some, hb_some, ↓vb_some, vb_some, ↓xb_some, xb_some, ↓rb_some, rb_some, ↓fb_fn, fb_fn, ↓fin_norm, fin_norm, ↓fin_ret, fin_ret, ↓fin1_one, fin1_one, ↓fin1_nil, fin1_nil, ↓fin1_two, fin1_two, resl_nil, resl_tmp, resl_cell, vload_ptr, gdl_zero, gdl_succ, wv_bool, wv_tup, wd_some, ↓r_nil, ↓r_guard, ↓r_move, ↓r_assign, ↓r_bin, ↓r_un, ↓r_conv, ↓r_load, ↓r_store, ↓r_alloc, ↓r_box, ↓r_pick, ↓r_build, ↓r_buildSlice, ↓r_nilCheck, ↓r_nilCheck0, ↓r_makeFunc, ↓r_makeSlice, ↓r_slice, ↓r_fieldAddr, ↓r_field, ↓r_indexAddr, ↓r_index, ↓r_extract, extract_tup, ↓r_builtin, ↓r_call, put_some, put_none, ev_tmp, ev_const, ev_func, kill_t, kill_f, kill_nil, getD_zero, getD_succ, vpick_b, vstore_ptr, vnil_ptr, vnil_fn, evp_mk, constOp, undefV, l_map, l_map0, l_set0, l_set, l_get0, l_get, List.append_nil, l_app0, List.nil_append, l_app, l_rep, l_rep0, o_bind, Option.bind_some, Option.bind_none, o_map, o_mapn, c_t, c_f, if_true, if_false, reduceCtorEq, Bool.false_eq_true, Bool.or_true, Bool.true_or, Bool.or_false, Bool.false_or, Bool.not_true, Bool.not_false, ↓fo_cons, fo_cons, fo_nil, eq_self, decide_true, decide_false, Int.reduceEq, Int.reduceNe, Int.reduceLT, Int.reduceLE, Int.reduceNeg, Int.reduceToNat, Nat.reduceAdd, Nat.reduceMul, Nat.reduceEqDiff, Nat.reduceBEq, Int.toNat_natCast, Nat.zero_add, Nat.add_zero, Nat.mul_one, vb_add, vb_sub, vb_mul, vb_quo, vb_rem, vb_and, vb_or, vb_xor, vb_shl, vb_shr, vb_eql, vb_neq, vb_lss, vb_leq, vb_gtr, vb_geq, sb_some, ld1_mk, st1_mk, stA_all, ldA_all, blk_alloc_at, blk_alloc_other, blk_set_same, blk_set_other, Hp.next_alloc, Hp.next_set, set_set, alloc_put_at, newVar_agg, newVar_int, ld3, ld4, ld5, ld22, ld26, ld30, ld81, ld23, ld37, ld28, ld25, ld58, ld82, ld72, st3, st4, st5, st22, st26, st30, st81, st23, st37, st28, st25, st58, st82, st72, fa28_0, fa28_1, fa28_2, fa28_3, fa28_4, fa28_5, fa28_6, fa25_0, fa25_1, fa25_2, fa25_3, fa25_4, fa25_5, fa58_0, fa58_1, fa58_2, fa58_3, fa58_4, fa58_5, fa58_6, ix23, ln23, ln23n, cp23, cp23n, ix37, ln37, ln37n, cp37, cp37n, ix82, ix72, cv81_5, cv5_81, cv5_3, cv3_5, cv22_3, cv22_5, cv5_22, cv3_22, K39_0, K39_1, K39_2, K39_3, K39_4, K39_5, K39_6, K39_7, K39_8, K39_9, K39_10, K39_11, K39_12, K39_13, K39_14, e, e1, e2, bs1_23, a1, e5, e6, c1, c2, ↓b4]
    · have c1 : decide (((l[k] : Nat) : Int) = 0) = false := by simp; omega
      by_cases h5 : o + 1 = 5
      · obtain ⟨g2, G2, c1', c2', c3', c4'⟩ := app_b a2 (by omega) 0 (by simp; omega) rfl rfl
        obtain ⟨g3, G3, o3, r3, b1, b2, b3, b4⟩ := ih (k + 1) G2 g2 0 (acc ++ [l[k]] ++ [0]) (by omega) (by omega) (by simp; omega) (hs1.fr c4' hnM) c2' (by omega)
        have hst : acc ++ stuff o (l[k] :: l.drop (k + 1)) = acc ++ [l[k]] ++ [0] ++ stuff 0 (l.drop (k + 1)) := by simp [stuff, hz, h5]
        refine ⟨g3, G3, o3, r3, by rw [hst]; exact b1, b2, (a4.trans c4').trans b3, ?_⟩
        rw [hst]
        simp only [fb39, Tryd.f39, Option.getD_some, nth, cond_true, cond_false] at b4 ⊢
        rw [loop_go]
        have z0 : ((0 : Nat) : Int) = 0 := rfl
        have c2 : decide (((o + 1 : Nat) : Int) = 5) = true := by simp; omega
        rw [z0] at b4 c1'
        simp (maxSteps := 5000000) (disch := first | assumption | omega | (refine id ?_; with_unfolding_all rfl) | (simp only [Hp.next_alloc, Hp.next_set, List.length_cons, List.length_nil]; omega)) only [↓g_seq, ↓g_skip, ↓g_ret, ↓g_exit, ↓g_label, ↓g_block, ↓g_cond, ↓g_region, ctx_P, ↓nb_norm, nb_norm, ↓nb_ret, nb_ret, ↓nb_exit, nb_exit, bx_norm, bx_ret, bx_exit, beq_self_eq_true, ↓cb_t, cb_t, ↓cb_f, cb_f, ↓gb_t, gb_t, ↓gb_f, gb_f, ↓ob_some, ob_some, ↓hb_some, hb_some, ↓vb_some, vb_some, ↓xb_some, xb_some, ↓rb_some, rb_some, ↓fb_fn, fb_fn, ↓fin_norm, fin_norm, ↓fin_ret, fin_ret, ↓fin1_one, fin1_one, ↓fin1_nil, fin1_nil, ↓fin1_two, fin1_two, resl_nil, resl_tmp, resl_cell, vload_ptr, gdl_zero, gdl_succ, wv_bool, wv_tup, wd_some, ↓r_nil, ↓r_guard, ↓r_move, ↓r_assign, ↓r_bin, ↓r_un, ↓r_conv, ↓r_load, ↓r_store, ↓r_alloc, ↓r_box, ↓r_pick, ↓r_build, ↓r_buildSlice, ↓r_nilCheck, ↓r_nilCheck0, ↓r_makeFunc, ↓r_makeSlice, ↓r_slice, ↓r_fieldAddr, ↓r_field, ↓r_indexAddr, ↓r_index, ↓r_extract, extract_tup, ↓r_builtin, ↓r_call, put_some, put_none, ev_tmp, ev_const, ev_func, kill_t, kill_f, kill_nil, getD_zero, getD_succ, vpick_b, vstore_ptr, vnil_ptr, vnil_fn, evp_mk, constOp, undefV, l_map, l_map0, l_set0, l_set, l_get0, l_get, List.append_nil, l_app0, List.nil_append, l_app, l_rep, l_rep0, o_bind, Option.bind_some, Option.bind_none, o_map, o_mapn, c_t, c_f, if_true, if_false, reduceCtorEq, Bool.false_eq_true, Bool.or_true, Bool.true_or, Bool.or_false, Bool.false_or, Bool.not_true, Bool.not_false, ↓fo_cons, fo_cons, fo_nil, eq_self, decide_true, decide_false, Int.reduceEq, Int.reduceNe, Int.reduceLT, Int.reduceLE, Int.reduceNeg, Int.reduceToNat, Nat.reduceAdd, Nat.reduceMul, Nat.reduceEqDiff, Nat.reduceBEq, Int.toNat_natCast, Nat.zero_add, Nat.add_zero, Nat.mul_one, vb_add, vb_sub, vb_mul, vb_quo, vb_rem, vb_and, vb_or, vb_xor, vb_shl, vb_shr, vb_eql, vb_neq, vb_lss, vb_leq, vb_gtr, vb_geq, sb_some, ld1_mk, st1_mk, stA_all, ldA_all, blk_alloc_at, blk_alloc_other, blk_set_same, blk_set_other, Hp.next_alloc, Hp.next_set, set_set, alloc_put_at, newVar_agg, newVar_int, ld3, ld4, ld5, ld22, ld26, ld30, ld81, ld23, ld37, ld28, ld25, ld58, ld82, ld72, st3, st4, st5, st22, st26, st30, st81, st23, st37, st28, st25, st58, st82, st72, fa28_0, fa28_1, fa28_2, fa28_3, fa28_4, fa28_5, fa28_6, fa25_0, fa25_1, fa25_2, fa25_3, fa25_4, fa25_5, fa58_0, fa58_1, fa58_2, fa58_3, fa58_4, fa58_5, fa58_6, ix23, ln23, ln23n, cp23, cp23n, ix37, ln37, ln37n, cp37, cp37n, ix82, ix72, cv81_5, cv5_81, cv5_3, cv3_5, cv22_3, cv22_5, cv5_22, cv3_22, K39_0, K39_1, K39_2, K39_3, K39_4, K39_5, K39_6, K39_7, K39_8, K39_9, K39_10, K39_11, K39_12, K39_13, K39_14, e, e1, e2, bs1_23, a1, e5, e6, c1, c2, c1', ↓b4]
      · obtain ⟨g2, G2, o2, r2, b1, b2, b3, b4⟩ := ih (k + 1) G1 g1 (o + 1) (acc ++ [l[k]]) (by omega) (by omega) (by simp; omega) hs1 a2 (by omega)
        have hst : acc ++ stuff o (l[k] :: l.drop (k + 1)) = acc ++ [l[k]] ++ stuff (o + 1) (l.drop (k + 1)) := by simp [stuff, hz, h5]
        refine ⟨g2, G2, o2, r2, by rw [hst]; exact b1, b2, a4.trans b3, ?_⟩
        rw [hst]
        simp only [fb39, Tryd.f39, Option.getD_some, nth, cond_true, cond_false] at b4 ⊢
        rw [loop_go]
        have c2 : decide (((o + 1 : Nat) : Int) = 5) = false := by simp; omega
        simp (maxSteps := 5000000) (disch := first | assumption | omega | (refine id ?_; with_unfolding_all rfl) | (simp only [Hp.next_alloc, Hp.next_set, List.length_cons, List.length_nil]; omega)) only [↓g_seq, ↓g_skip, ↓g_ret, ↓g_exit, ↓g_label, ↓g_block, ↓g_cond, ↓g_region, ctx_P, ↓nb_norm, nb_norm, ↓nb_ret, nb_ret, ↓nb_exit, nb_exit, bx_norm, bx_ret, bx_exit, beq_self_eq_true, ↓cb_t, cb_t, ↓cb_f, cb_f, ↓gb_t, gb_t, ↓gb_f, gb_f, ↓ob_some, ob_some, ↓hb_some, hb_some, ↓vb_some, vb_some, ↓xb_some, xb_some, ↓rb_some, rb_some, ↓fb_fn, fb_fn, ↓fin_norm, fin_norm, ↓fin_ret, fin_ret, ↓fin1_one, fin1_one, ↓fin1_nil, fin1_nil, ↓fin1_two, fin1_two, resl_nil, resl_tmp, resl_cell, vload_ptr, gdl_zero, gdl_succ, wv_bool, wv_tup, wd_some, ↓r_nil, ↓r_guard, ↓r_move, ↓r_assign, ↓r_bin, ↓r_un, ↓r_conv, ↓r_load, ↓r_store, ↓r_alloc, ↓r_box, ↓r_pick, ↓r_build, ↓r_buildSlice, ↓r_nilCheck, ↓r_nilCheck0, ↓r_makeFunc, ↓r_makeSlice, ↓r_slice, ↓r_fieldAddr, ↓r_field, ↓r_indexAddr, ↓r_index, ↓r_extract, extract_tup, ↓r_builtin, ↓r_call, put_some, put_none, ev_tmp, ev_const, ev_func, kill_t, kill_f, kill_nil, getD_zero, getD_succ, vpick_b, vstore_ptr, vnil_ptr, vnil_fn, evp_mk, constOp, undefV, l_map, l_map0, l_set0, l_set, l_get0, l_get, List.append_nil, l_app0, List.nil_append, l_app, l_rep, l_rep0, o_bind, Option.bind_some, Option.bind_none, o_map, o_mapn, c_t, c_f, if_true, if_false, reduceCtorEq, Bool.false_eq_true, Bool.or_true, Bool.true_or, Bool.or_false, Bool.false_or, Bool.not_true, Bool.not_false, ↓fo_cons, fo_cons, fo_nil, eq_self, decide_true, decide_false, Int.reduceEq, Int.reduceNe, Int.reduceLT, Int.reduceLE, Int.reduceNeg, Int.reduceToNat, Nat.reduceAdd, Nat.reduceMul, Nat.reduceEqDiff, Nat.reduceBEq, Int.toNat_natCast, Nat.zero_add, Nat.add_zero, Nat.mul_one, vb_add, vb_sub, vb_mul, vb_quo, vb_rem, vb_and, vb_or, vb_xor, vb_shl, vb_shr, vb_eql, vb_neq, vb_lss, vb_leq, vb_gtr, vb_geq, sb_some, ld1_mk, st1_mk, stA_all, ldA_all, blk_alloc_at, blk_alloc_other, blk_set_same, blk_set_other, Hp.next_alloc, Hp.next_set, set_set, alloc_put_at, newVar_agg, newVar_int, ld3, ld4, ld5, ld22, ld26, ld30, ld81, ld23, ld37, ld28, ld25, ld58, ld82, ld72, st3, st4, st5, st22, st26, st30, st81, st23, st37, st28, st25, st58, st82, st72, fa28_0, fa28_1, fa28_2, fa28_3, fa28_4, fa28_5, fa28_6, fa25_0, fa25_1, fa25_2, fa25_3, fa25_4, fa25_5, fa58_0, fa58_1, fa58_2, fa58_3, fa58_4, fa58_5, fa58_6, ix23, ln23, ln23n, cp23, cp23n, ix37, ln37, ln37n, cp37, cp37n, ix82, ix72, cv81_5, cv5_81, cv5_3, cv3_5, cv22_3, cv22_5, cv5_22, cv3_22, K39_0, K39_1, K39_2, K39_3, K39_4, K39_5, K39_6, K39_7, K39_8, K39_9, K39_10, K39_11, K39_12, K39_13, K39_14, e, e1, e2, bs1_23, a1, e5, e6, c1, c2, ↓b4]

theorem stuffed {H : Hp} {n g off cap : Nat} {ex : Bool} {l : List Nat} (hs : Sl H n g off l) (hn : n < H.next) (hb : ∀ x ∈ l, x < 2) (h0 : l ≠ []) (hl : l.length < 2 ^ 24) :
    ∃ g' H', callL ctx 39 [.sl n g off l.length cap ex 1] H = some (.sl H.next g' 0 (stuff 0 l).length (stuff 0 l).length true 1, H') ∧ Own H' H.next g' (stuff 0 l) [] ∧ H.next < H'.next ∧ Fr H.next H H' := by
  have h0' : 0 < l.length := by cases l <;> simp_all
  have hf := Fr.alloc H [] 5
  obtain ⟨g', G', o', r', a1, a2, a3, a4⟩ := stuffed_loop hb hl n g off cap ex H.next hn l.length 0 (H.alloc [] 5) 0 0 [] (by omega) (by omega) (by simp; omega) (hs.fr hf hn) (Own.of_alloc H []) (by simp [Hp.alloc])
  simp only [List.nil_append, List.drop_zero] at a1 a4
  refine ⟨g', G', ?_, a1, a2, hf.trans a3⟩
  rw [cg39]
  simp only [fb39, Tryd.f39, Option.getD_some, nth, cond_true, cond_false] at a4 ⊢
  have mk := mk23c H (l.length + l.length / 5) (by omega) (by omega)
  have e0 : (l.length : Int).tdiv 5 = ((l.length / 5 : Nat) : Int) := by rw [tdiv_pos (by omega)]; omega
  have e2 : IntKind.i64.wrap ((l.length / 5 : Nat) : Int) = ((l.length / 5 : Nat) : Int) := w64 (by omega) (by omega)
  have e1 : IntKind.i64.wrap ((l.length : Int) + ((l.length / 5 : Nat) : Int)) = ((l.length + l.length / 5 : Nat) : Int) := by rw [w64 (by omega) (by omega)]; omega
  have z0 : ((0 : Nat) : Int) = 0 := rfl
  have z1 : ([] : List Nat).length = 0 := rfl
  rw [z0, z1] at a4
  simp (maxSteps := 5000000) (disch := first | assumption | omega | (refine id ?_; with_unfolding_all rfl) | (simp only [Hp.next_alloc, Hp.next_set, List.length_cons, List.length_nil]; omega)) only [↓g_seq, ↓g_skip, ↓g_ret, ↓g_exit, ↓g_label, ↓g_block, ↓g_cond, ↓g_region, ctx_P, ↓nb_norm, nb_norm, ↓nb_ret, nb_ret, ↓nb_exit, nb_exit, bx_norm, bx_ret, bx_exit, beq_self_eq_true, ↓cb_t, cb_t, ↓cb_f, cb_f, ↓gb_t, gb_t, ↓gb_f, gb_f, ↓ob_some, ob_some, ↓hb_some, hb_some, ↓vb_some, vb_some, ↓xb_some, xb_some, ↓rb_some, rb_some, ↓fb_fn, fb_fn, ↓fin_norm, fin_norm, ↓fin_ret, fin_ret, ↓fin1_one, fin1_one, ↓fin1_nil, fin1_nil, ↓fin1_two, fin1_two, resl_nil, resl_tmp, resl_cell, vload_ptr, gdl_zero, gdl_succ, wv_bool, wv_tup, wd_some, ↓r_nil, ↓r_guard, ↓r_move, ↓r_assign, ↓r_bin, ↓r_un, ↓r_conv, ↓r_load, ↓r_store, ↓r_alloc, ↓r_box, ↓r_pick, ↓r_build, ↓r_buildSlice, ↓r_nilCheck, ↓r_nilCheck0, ↓r_makeFunc, ↓r_makeSlice, ↓r_slice, ↓r_fieldAddr, ↓r_field, ↓r_indexAddr, ↓r_index, ↓r_extract, extract_tup, ↓r_builtin, ↓r_call, put_some, put_none, ev_tmp, ev_const, ev_func, kill_t, kill_f, kill_nil, getD_zero, getD_succ, vpick_b, vstore_ptr, vnil_ptr, vnil_fn, evp_mk, constOp, undefV, l_map, l_map0, l_set0, l_set, l_get0, l_get, List.append_nil, l_app0, List.nil_append, l_app, l_rep, l_rep0, o_bind, Option.bind_some, Option.bind_none, o_map, o_mapn, c_t, c_f, if_true, if_false, reduceCtorEq, Bool.false_eq_true, Bool.or_true, Bool.true_or, Bool.or_false, Bool.false_or, Bool.not_true, Bool.not_false, ↓fo_cons, fo_cons, fo_nil, eq_self, decide_true, decide_false, Int.reduceEq, Int.reduceNe, Int.reduceLT, Int.reduceLE, Int.reduceNeg, Int.reduceToNat, Nat.reduceAdd, Nat.reduceMul, Nat.reduceEqDiff, Nat.reduceBEq, Int.toNat_natCast, Nat.zero_add, Nat.add_zero, Nat.mul_one, vb_add, vb_sub, vb_mul, vb_quo, vb_rem, vb_and, vb_or, vb_xor, vb_shl, vb_shr, vb_eql, vb_neq, vb_lss, vb_leq, vb_gtr, vb_geq, sb_some, ld1_mk, st1_mk, stA_all, ldA_all, blk_alloc_at, blk_alloc_other, blk_set_same, blk_set_other, Hp.next_alloc, Hp.next_set, set_set, alloc_put_at, newVar_agg, newVar_int, ld3, ld4, ld5, ld22, ld26, ld30, ld81, ld23, ld37, ld28, ld25, ld58, ld82, ld72, st3, st4, st5, st22, st26, st30, st81, st23, st37, st28, st25, st58, st82, st72, fa28_0, fa28_1, fa28_2, fa28_3, fa28_4, fa28_5, fa28_6, fa25_0, fa25_1, fa25_2, fa25_3, fa25_4, fa25_5, fa58_0, fa58_1, fa58_2, fa58_3, fa58_4, fa58_5, fa58_6, ix23, ln23, ln23n, cp23, cp23n, ix37, ln37, ln37n, cp37, cp37n, ix82, ix72, cv81_5, cv5_81, cv5_3, cv3_5, cv22_3, cv22_5, cv5_22, cv3_22, K39_0, K39_1, K39_2, K39_3, K39_4, K39_5, K39_6, K39_7, K39_8, K39_9, K39_10, K39_11, K39_12, K39_13, K39_14, e0, e2, e1, mk, ↓g_loop, ↓a4, clip]
end Go.Proofs.YtnicmcdnpeimoaaDoor
