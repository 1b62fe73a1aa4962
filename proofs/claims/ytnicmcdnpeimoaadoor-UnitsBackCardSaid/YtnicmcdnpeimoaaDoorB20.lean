/-
  A valid unit out of plain data.
-/
import Derived.Test.YtnicmcdnpeimoaaDoorB19
set_option linter.unusedVariables false
set_option linter.unusedSimpArgs false
set_option maxRecDepth 100000
set_option maxHeartbeats 4000000
namespace Go.Proofs.YtnicmcdnpeimoaaDoor
open Go.Am
attribute [local congr] fo_first sb_first ob_first hb_first vb_first xb_first cb_first nb_first gb_first fb_first rb_first db_first run_first go_first codeL_first

/-- The load of a size that consists of octets, repeated. -/
def messAt (b : List Nat) (i : Nat) : Nat := b.getD (i % b.length) 0
def mess (sz : Nat) (b : List Nat) : List Nat := (List.range (2 + sz % 272)).map fun i => if b.length = 0 then 0 else messAt b i
def mp (b : List Nat) (m k : Nat) : List V := (List.range m).map fun i => if i < k then .s (.int .u8 ((messAt b i : Nat) : Int)) else .s (.int .u8 0)
theorem mp_set (l : List Nat) (m k : Nat) (h : k < m) : (mp l m k).set k (.s (.int .u8 ((messAt l k : Nat) : Int))) = mp l m (k + 1) := by
  apply List.ext_getElem
  · simp [mp]
  · intro i h1 h2
    simp only [mp, List.getElem_set, List.getElem_map, List.getElem_range]
    by_cases e : k = i
    · subst e; simp
    · simp only [e, if_false]
      by_cases l : i < k
      · rw [if_pos l, if_pos (by omega)]
      · rw [if_neg l, if_neg (by omega)]
theorem mp_len (l : List Nat) (m k : Nat) : (mp l m k).length = m := by simp [mp]
theorem mp_0 (l : List Nat) (m : Nat) : mp l m 0 = List.replicate m (.s (.int .u8 0)) := by
  apply List.ext_getElem
  · simp [mp]
  · intro i h1 h2; simp [mp]
theorem mp_all (l : List Nat) (h : l.length ≠ 0) (sz : Nat) : mp l (2 + sz % 272) (2 + sz % 272) = bs (mess sz l) := by
  simp only [mp, bs, mess, List.map_map]
  apply List.map_congr_left
  intro i hi
  have : i < 2 + sz % 272 := by simpa using hi
  simp [this, h]

theorem message_loop {H : Hp} {l : List Nat} {n g off cap : Nat} {ex : Bool} (hs : Sl H n g off l) (hn : n < H.next) (h0 : 0 < l.length) (hl : l.length < 2 ^ 63) (m : Nat) (hm : m < 2 ^ 30) : ∀ (d k : Nat), k + d = m →
    codeL ctx 16 (nth (fbody 16) [true, true, false, true, false]) [.junk, .sl n g off l.length cap ex 1, .junk, .junk, .junk, .sl H.next 0 0 m m true 1, .s (.int .i64 k), .junk, .junk, .junk, .junk, .junk, .junk, .junk, .junk, .junk, .junk, .junk, .junk, .junk, .junk, .junk, .junk, .junk, .junk, .junk, .junk, .junk, .junk, .junk, .junk, .junk, .junk, .junk] (H.alloc (mp l m k) 5) =
      some (.exit 0, [.junk, .sl n g off l.length cap ex 1, .junk, .junk, .junk, .sl H.next 0 0 m m true 1, .s (.int .i64 m), .junk, .junk, .junk, .junk, .junk, .junk, .junk, .junk, .junk, .junk, .junk, .junk, .junk, .s (.bool false), .junk, .junk, .junk, .junk, .junk, .junk, .junk, .junk, .junk, .junk, .junk, .junk, .junk], H.alloc (mp l m m) 5) := by
  intro d
  induction d with
  | zero =>
    intro k hk
    obtain rfl : k = m := by omega
    simp only [fb16, Tryd.f16, Option.getD_some, nth, cond_true, cond_false]
    rw [loop_go]
    simp (maxSteps := 5000000) (disch := first | assumption | omega | (refine id ?_; with_unfolding_all rfl) | (simp only [Hp.next_alloc, Hp.next_set, List.length_cons, List.length_nil]; omega)) only [↓g_seq, ↓g_skip, ↓g_ret, ↓g_exit, ↓g_label, ↓g_block, ↓g_cond, ↓g_region, ctx_P, ↓nb_norm, nb_norm, ↓nb_ret, nb_ret, ↓nb_exit, nb_exit, bx_norm, bx_ret, bx_exit, beq_self_eq_true, ↓cb_t, cb_t, ↓cb_f, cb_f, ↓gb_t, gb_t, ↓gb_f, gb_f, ↓ob_some, ob_some, ↓hb_some, hb_some, ↓vb_some, vb_some, ↓xb_some, xb_some, ↓rb_some, rb_some, ↓fb_fn, fb_fn, ↓fin_norm, fin_norm, ↓fin_ret, fin_ret, ↓fin1_one, fin1_one, ↓fin1_nil, fin1_nil, ↓fin1_two, fin1_two, resl_nil, resl_tmp, resl_cell, vload_ptr, gdl_zero, gdl_succ, wv_bool, wv_tup, wd_some, ↓r_nil, ↓r_guard, ↓r_move, ↓r_assign, ↓r_bin, ↓r_un, ↓r_conv, ↓r_load, ↓r_store, ↓r_alloc, ↓r_box, ↓r_pick, ↓r_build, ↓r_buildSlice, ↓r_nilCheck, ↓r_nilCheck0, ↓r_makeFunc, ↓r_makeSlice, ↓r_slice, ↓r_fieldAddr, ↓r_field, ↓r_indexAddr, ↓r_index, ↓r_extract, extract_tup, ↓r_builtin, ↓r_call, put_some, put_none, ev_tmp, ev_const, ev_func, kill_t, kill_f, kill_nil, getD_zero, getD_succ, vpick_b, vstore_ptr, vnil_ptr, vnil_fn, evp_mk, constOp, undefV, l_map, l_map0, l_set0, l_set, l_get0, l_get, List.append_nil, l_app0, List.nil_append, l_app, l_rep, l_rep0, o_bind, Option.bind_some, Option.bind_none, o_map, o_mapn, c_t, c_f, if_true, if_false, reduceCtorEq, Bool.false_eq_true, Bool.or_true, Bool.true_or, Bool.or_false, Bool.false_or, Bool.not_true, Bool.not_false, ↓fo_cons, fo_cons, fo_nil, eq_self, decide_true, decide_false, Int.reduceEq, Int.reduceNe, Int.reduceLT, Int.reduceLE, Int.reduceNeg, Int.reduceToNat, Nat.reduceAdd, Nat.reduceMul, Nat.reduceEqDiff, Nat.reduceBEq, Int.toNat_natCast, Nat.zero_add, Nat.add_zero, Nat.mul_one, vb_add, vb_sub, vb_mul, vb_quo, vb_rem, vb_and, vb_or, vb_xor, vb_shl, vb_shr, vb_eql, vb_neq, vb_lss, vb_leq, vb_gtr, vb_geq, sb_some, ld1_mk, st1_mk, stA_all, ldA_all, blk_alloc_at, blk_alloc_other, blk_set_same, blk_set_other, Hp.next_alloc, Hp.next_set, set_set, alloc_put_at, newVar_agg, newVar_int, ld3, ld4, ld5, ld22, ld26, ld30, ld81, ld23, ld37, ld28, ld25, ld58, ld82, ld72, st3, st4, st5, st22, st26, st30, st81, st23, st37, st28, st25, st58, st82, st72, fa28_0, fa28_1, fa28_2, fa28_3, fa28_4, fa28_5, fa28_6, fa25_0, fa25_1, fa25_2, fa25_3, fa25_4, fa25_5, fa58_0, fa58_1, fa58_2, fa58_3, fa58_4, fa58_5, fa58_6, ix23, ln23, ln23n, cp23, cp23n, ix37, ln37, ln37n, cp37, cp37n, ix82, ix72, cv81_5, cv5_81, cv5_3, cv3_5, cv22_3, cv22_5, cv5_22, cv3_22, na1, ns1, na2, ns2, na3, ns3, na4, ns4, na5, ns5, na6, ns6, na7, ns7, na8, ns8, na10, ns10, na15, ns15, na16, ns16, na62, ns62, na63, ns63, na64, ns64, na127, ns127, na128, ns128, na255, ns255, na256, ns256, naa, nss, nmm, tm2, td2, tm3, td3, tm4, td4, tm5, td5, tm6, td6, tm8, td8, tm10, td10, tm16, td16, tm32, td32, tm128, td128, tm256, td256, tm272, td272, tmn, tdn, w64, w8, w16, w32, wu64, decide_eq_true, decide_eq_false, List.length_cons, List.length_nil, List.length_append, Nat.le_refl, Nat.lt_irrefl, Nat.add_sub_cancel, K16_0, K16_1, K16_2, K16_3, K16_4, K16_5, K16_6]
  | succ d ih =>
    intro k hk
    have hkm : k < m := by omega
    have hi := ih (k + 1) (by omega)
    have hmod : k % l.length < l.length := Nat.mod_lt _ h0
    have e2 := hs.at hmod
    have e1 : l[k % l.length] = messAt l k := by
      unfold messAt
      rw [List.getD_eq_getElem?_getD, List.getElem?_eq_getElem hmod]; rfl
    rw [e1] at e2
    have e3 := mp_set l m k hkm
    have e4 : k < (mp l m k).length := by rw [mp_len]; omega
    have e5 := tmn k l.length
    have e6 : ¬ (l.length : Int) = 0 := by omega
    have e7 : (((k % l.length : Nat) : Int)) < l.length := by omega
    have e8 : n ≠ H.next := by omega
    simp only [fb16, Tryd.f16, Option.getD_some, nth, cond_true, cond_false] at hi ⊢
    generalize messAt l k = M at *
    generalize k % l.length = q at *
    rw [loop_go]
    simp (maxSteps := 5000000) (disch := first | assumption | omega | (refine id ?_; with_unfolding_all rfl) | (simp only [Hp.next_alloc, Hp.next_set, List.length_cons, List.length_nil]; omega)) only [↓g_seq, ↓g_skip, ↓g_ret, ↓g_exit, ↓g_label, ↓g_block, ↓g_cond, ↓g_region, ctx_P, ↓nb_norm, nb_norm, ↓nb_ret, nb_ret, ↓nb_exit, nb_exit, bx_norm, bx_ret, bx_exit, beq_self_eq_true, ↓cb_t, cb_t, ↓cb_f, cb_f, ↓gb_t, gb_t, ↓gb_f, gb_f, ↓ob_some, ob_some, ↓hb_some, hb_some, ↓vb_some, vb_some, ↓xb_some, xb_some, ↓rb_some, rb_some, ↓fb_fn, fb_fn, ↓fin_norm, fin_norm, ↓fin_ret, fin_ret, ↓fin1_one, fin1_one, ↓fin1_nil, fin1_nil, ↓fin1_two, fin1_two, resl_nil, resl_tmp, resl_cell, vload_ptr, gdl_zero, gdl_succ, wv_bool, wv_tup, wd_some, ↓r_nil, ↓r_guard, ↓r_move, ↓r_assign, ↓r_bin, ↓r_un, ↓r_conv, ↓r_load, ↓r_store, ↓r_alloc, ↓r_box, ↓r_pick, ↓r_build, ↓r_buildSlice, ↓r_nilCheck, ↓r_nilCheck0, ↓r_makeFunc, ↓r_makeSlice, ↓r_slice, ↓r_fieldAddr, ↓r_field, ↓r_indexAddr, ↓r_index, ↓r_extract, extract_tup, ↓r_builtin, ↓r_call, put_some, put_none, ev_tmp, ev_const, ev_func, kill_t, kill_f, kill_nil, getD_zero, getD_succ, vpick_b, vstore_ptr, vnil_ptr, vnil_fn, evp_mk, constOp, undefV, l_map, l_map0, l_set0, l_set, l_get0, l_get, List.append_nil, l_app0, List.nil_append, l_app, l_rep, l_rep0, o_bind, Option.bind_some, Option.bind_none, o_map, o_mapn, c_t, c_f, if_true, if_false, reduceCtorEq, Bool.false_eq_true, Bool.or_true, Bool.true_or, Bool.or_false, Bool.false_or, Bool.not_true, Bool.not_false, ↓fo_cons, fo_cons, fo_nil, eq_self, decide_true, decide_false, Int.reduceEq, Int.reduceNe, Int.reduceLT, Int.reduceLE, Int.reduceNeg, Int.reduceToNat, Nat.reduceAdd, Nat.reduceMul, Nat.reduceEqDiff, Nat.reduceBEq, Int.toNat_natCast, Nat.zero_add, Nat.add_zero, Nat.mul_one, vb_add, vb_sub, vb_mul, vb_quo, vb_rem, vb_and, vb_or, vb_xor, vb_shl, vb_shr, vb_eql, vb_neq, vb_lss, vb_leq, vb_gtr, vb_geq, sb_some, ld1_mk, st1_mk, stA_all, ldA_all, blk_alloc_at, blk_alloc_other, blk_set_same, blk_set_other, Hp.next_alloc, Hp.next_set, set_set, alloc_put_at, newVar_agg, newVar_int, ld3, ld4, ld5, ld22, ld26, ld30, ld81, ld23, ld37, ld28, ld25, ld58, ld82, ld72, st3, st4, st5, st22, st26, st30, st81, st23, st37, st28, st25, st58, st82, st72, fa28_0, fa28_1, fa28_2, fa28_3, fa28_4, fa28_5, fa28_6, fa25_0, fa25_1, fa25_2, fa25_3, fa25_4, fa25_5, fa58_0, fa58_1, fa58_2, fa58_3, fa58_4, fa58_5, fa58_6, ix23, ln23, ln23n, cp23, cp23n, ix37, ln37, ln37n, cp37, cp37n, ix82, ix72, cv81_5, cv5_81, cv5_3, cv3_5, cv22_3, cv22_5, cv5_22, cv3_22, na1, ns1, na2, ns2, na3, ns3, na4, ns4, na5, ns5, na6, ns6, na7, ns7, na8, ns8, na10, ns10, na15, ns15, na16, ns16, na62, ns62, na63, ns63, na64, ns64, na127, ns127, na128, ns128, na255, ns255, na256, ns256, naa, nss, nmm, tm2, td2, tm3, td3, tm4, td4, tm5, td5, tm6, td6, tm8, td8, tm10, td10, tm16, td16, tm32, td32, tm128, td128, tm256, td256, tm272, td272, tmn, tdn, w64, w8, w16, w32, wu64, decide_eq_true, decide_eq_false, List.length_cons, List.length_nil, List.length_append, Nat.le_refl, Nat.lt_irrefl, Nat.add_sub_cancel, K16_0, K16_1, K16_2, K16_3, K16_4, K16_5, K16_6, e2, e3, e5, e6, ↓hi]

/-- A slice of octets: one that stands in memory, or an empty one, wherever. -/
def By0 (H : Hp) (v : V) (l : List Nat) : Prop := By H v l ∨ (l = [] ∧ ∃ n g off cap ex, v = .sl n g off 0 cap ex 1)
theorem By0.fr {m : Nat} {A B : Hp} (f : Fr m A B) {v : V} {l : List Nat} (h : By0 A v l) (hm : A.next ≤ m) : By0 B v l := by
  rcases h with h | h
  · exact .inl (h.fr f hm)
  · exact .inr h
theorem By0.lenN {H : Hp} {v : V} {l : List Nat} (h : By0 H v l) (G : Hp) : vbuiltin Tryd.prog G .len #[23] [v] = some (.s (.int .i64 l.length), G) := by
  rcases h with h | ⟨rfl, n, g, off, cap, ex, rfl⟩
  · exact h.lenN G
  · exact ln23 ..
theorem By0.beq {H : Hp} {v : V} {l : List Nat} (h : By0 H v l) : V.beq v v = true := by
  rcases h with h | ⟨rfl, n, g, off, cap, ex, rfl⟩
  · rcases h with ⟨rfl, rfl⟩ | ⟨n, g, off, cap, ex, rfl, _⟩
    · exact beq_slnil 0 0
    · exact beq_sl ..
  · exact beq_sl ..

theorem message {H : Hp} {v : V} {b : List Nat} (hv : By0 H v b) (hl : b.length < 2 ^ 63) (sz : Nat) (hsz : sz < 65536) :
    callL ctx 16 [.s (.int .u16 sz), v] H = some (.sl H.next 0 0 (2 + sz % 272) (2 + sz % 272) true 1, H.alloc (bs (mess sz b)) 5) := by
  have mk := mk23 H (2 + sz % 272) (by omega)
  have e1 : IntKind.i64.wrap (2 + ((sz % 272 : Nat) : Int)) = ((2 + sz % 272 : Nat) : Int) := by rw [w64 (by omega) (by omega)]; omega
  have hln := hv.lenN
  have z0 : ((0 : Nat) : Int) = 0 := rfl
  by_cases h0 : b.length = 0
  · have hb : bs (mess sz b) = List.replicate (2 + sz % 272) (.s (.int .u8 0)) := by
      simp only [mess, h0, if_true, bs, List.map_map]
      apply List.ext_getElem
      · simp
      · intro i h1 h2; simp
    rw [hb]
    generalize hm : 2 + sz % 272 = m at *
    generalize hR : (List.replicate m (V.s (.int .u8 0))) = R at *
    have p : codeL ctx 16 (nth (fbody 16) [true, true, false, true, false]) [.junk, v, .junk, .junk, .junk, .sl H.next 0 0 m m true 1, .s (.int .i64 0), .junk, .junk, .junk, .junk, .junk, .junk, .junk, .junk, .junk, .junk, .junk, .junk, .junk, .junk, .junk, .junk, .junk, .junk, .junk, .junk, .junk, .junk, .junk, .junk, .junk, .junk, .junk] (H.alloc R 5) =
        some (.exit 0, [.junk, v, .junk, .junk, .junk, .sl H.next 0 0 m m true 1, .s (.int .i64 0), .junk, .junk, .junk, .junk, .junk, .junk, .junk, .junk, .junk, .junk, .junk, .junk, .junk, .s (.bool false), .junk, .junk, .junk, .junk, .junk, .junk, .junk, .junk, .junk, .junk, .junk, .junk, .junk], H.alloc R 5) := by
      rw [h0] at hln
      simp only [fb16, Tryd.f16, Option.getD_some, nth, cond_true, cond_false]
      rw [loop_go]
      simp (maxSteps := 5000000) (disch := first | assumption | omega | (refine id ?_; with_unfolding_all rfl) | (simp only [Hp.next_alloc, Hp.next_set, List.length_cons, List.length_nil]; omega)) only [↓g_seq, ↓g_skip, ↓g_ret, ↓g_exit, ↓g_label, ↓g_block, ↓g_cond, ↓g_region, ctx_P, ↓nb_norm, nb_norm, ↓nb_ret, nb_ret, ↓nb_exit, nb_exit, bx_norm, bx_ret, bx_exit, beq_self_eq_true, ↓cb_t, cb_t, ↓cb_f, cb_f, ↓gb_t, gb_t, ↓gb_f, gb_f, ↓ob_some, ob_some, ↓hb_some, hb_some, ↓vb_some, vb_some, ↓xb_some, xb_some, ↓rb_some, rb_some, ↓fb_fn, fb_fn, ↓fin_norm, fin_norm, ↓fin_ret, fin_ret, ↓fin1_one, fin1_one, ↓fin1_nil, fin1_nil, ↓fin1_two, fin1_two, resl_nil, resl_tmp, resl_cell, vload_ptr, gdl_zero, gdl_succ, wv_bool, wv_tup, wd_some, ↓r_nil, ↓r_guard, ↓r_move, ↓r_assign, ↓r_bin, ↓r_un, ↓r_conv, ↓r_load, ↓r_store, ↓r_alloc, ↓r_box, ↓r_pick, ↓r_build, ↓r_buildSlice, ↓r_nilCheck, ↓r_nilCheck0, ↓r_makeFunc, ↓r_makeSlice, ↓r_slice, ↓r_fieldAddr, ↓r_field, ↓r_indexAddr, ↓r_index, ↓r_extract, extract_tup, ↓r_builtin, ↓r_call, put_some, put_none, ev_tmp, ev_const, ev_func, kill_t, kill_f, kill_nil, getD_zero, getD_succ, vpick_b, vstore_ptr, vnil_ptr, vnil_fn, evp_mk, constOp, undefV, l_map, l_map0, l_set0, l_set, l_get0, l_get, List.append_nil, l_app0, List.nil_append, l_app, l_rep, l_rep0, o_bind, Option.bind_some, Option.bind_none, o_map, o_mapn, c_t, c_f, if_true, if_false, reduceCtorEq, Bool.false_eq_true, Bool.or_true, Bool.true_or, Bool.or_false, Bool.false_or, Bool.not_true, Bool.not_false, ↓fo_cons, fo_cons, fo_nil, eq_self, decide_true, decide_false, Int.reduceEq, Int.reduceNe, Int.reduceLT, Int.reduceLE, Int.reduceNeg, Int.reduceToNat, Nat.reduceAdd, Nat.reduceMul, Nat.reduceEqDiff, Nat.reduceBEq, Int.toNat_natCast, Nat.zero_add, Nat.add_zero, Nat.mul_one, vb_add, vb_sub, vb_mul, vb_quo, vb_rem, vb_and, vb_or, vb_xor, vb_shl, vb_shr, vb_eql, vb_neq, vb_lss, vb_leq, vb_gtr, vb_geq, sb_some, ld1_mk, st1_mk, stA_all, ldA_all, blk_alloc_at, blk_alloc_other, blk_set_same, blk_set_other, Hp.next_alloc, Hp.next_set, set_set, alloc_put_at, newVar_agg, newVar_int, ld3, ld4, ld5, ld22, ld26, ld30, ld81, ld23, ld37, ld28, ld25, ld58, ld82, ld72, st3, st4, st5, st22, st26, st30, st81, st23, st37, st28, st25, st58, st82, st72, fa28_0, fa28_1, fa28_2, fa28_3, fa28_4, fa28_5, fa28_6, fa25_0, fa25_1, fa25_2, fa25_3, fa25_4, fa25_5, fa58_0, fa58_1, fa58_2, fa58_3, fa58_4, fa58_5, fa58_6, ix23, ln23, ln23n, cp23, cp23n, ix37, ln37, ln37n, cp37, cp37n, ix82, ix72, cv81_5, cv5_81, cv5_3, cv3_5, cv22_3, cv22_5, cv5_22, cv3_22, na1, ns1, na2, ns2, na3, ns3, na4, ns4, na5, ns5, na6, ns6, na7, ns7, na8, ns8, na10, ns10, na15, ns15, na16, ns16, na62, ns62, na63, ns63, na64, ns64, na127, ns127, na128, ns128, na255, ns255, na256, ns256, naa, nss, nmm, tm2, td2, tm3, td3, tm4, td4, tm5, td5, tm6, td6, tm8, td8, tm10, td10, tm16, td16, tm32, td32, tm128, td128, tm256, td256, tm272, td272, tmn, tdn, w64, w8, w16, w32, wu64, decide_eq_true, decide_eq_false, List.length_cons, List.length_nil, List.length_append, Nat.le_refl, Nat.lt_irrefl, Nat.add_sub_cancel, K16_0, K16_1, K16_2, K16_3, K16_4, K16_5, K16_6, hln]
    rw [cg16]
    simp only [fb16, Tryd.f16, Option.getD_some, nth, cond_true, cond_false] at p ⊢
    simp (maxSteps := 5000000) (disch := first | assumption | omega | (refine id ?_; with_unfolding_all rfl) | (simp only [Hp.next_alloc, Hp.next_set, List.length_cons, List.length_nil]; omega)) only [↓g_seq, ↓g_skip, ↓g_ret, ↓g_exit, ↓g_label, ↓g_block, ↓g_cond, ↓g_region, ctx_P, ↓nb_norm, nb_norm, ↓nb_ret, nb_ret, ↓nb_exit, nb_exit, bx_norm, bx_ret, bx_exit, beq_self_eq_true, ↓cb_t, cb_t, ↓cb_f, cb_f, ↓gb_t, gb_t, ↓gb_f, gb_f, ↓ob_some, ob_some, ↓hb_some, hb_some, ↓vb_some, vb_some, ↓xb_some, xb_some, ↓rb_some, rb_some, ↓fb_fn, fb_fn, ↓fin_norm, fin_norm, ↓fin_ret, fin_ret, ↓fin1_one, fin1_one, ↓fin1_nil, fin1_nil, ↓fin1_two, fin1_two, resl_nil, resl_tmp, resl_cell, vload_ptr, gdl_zero, gdl_succ, wv_bool, wv_tup, wd_some, ↓r_nil, ↓r_guard, ↓r_move, ↓r_assign, ↓r_bin, ↓r_un, ↓r_conv, ↓r_load, ↓r_store, ↓r_alloc, ↓r_box, ↓r_pick, ↓r_build, ↓r_buildSlice, ↓r_nilCheck, ↓r_nilCheck0, ↓r_makeFunc, ↓r_makeSlice, ↓r_slice, ↓r_fieldAddr, ↓r_field, ↓r_indexAddr, ↓r_index, ↓r_extract, extract_tup, ↓r_builtin, ↓r_call, put_some, put_none, ev_tmp, ev_const, ev_func, kill_t, kill_f, kill_nil, getD_zero, getD_succ, vpick_b, vstore_ptr, vnil_ptr, vnil_fn, evp_mk, constOp, undefV, l_map, l_map0, l_set0, l_set, l_get0, l_get, List.append_nil, l_app0, List.nil_append, l_app, l_rep, l_rep0, o_bind, Option.bind_some, Option.bind_none, o_map, o_mapn, c_t, c_f, if_true, if_false, reduceCtorEq, Bool.false_eq_true, Bool.or_true, Bool.true_or, Bool.or_false, Bool.false_or, Bool.not_true, Bool.not_false, ↓fo_cons, fo_cons, fo_nil, eq_self, decide_true, decide_false, Int.reduceEq, Int.reduceNe, Int.reduceLT, Int.reduceLE, Int.reduceNeg, Int.reduceToNat, Nat.reduceAdd, Nat.reduceMul, Nat.reduceEqDiff, Nat.reduceBEq, Int.toNat_natCast, Nat.zero_add, Nat.add_zero, Nat.mul_one, vb_add, vb_sub, vb_mul, vb_quo, vb_rem, vb_and, vb_or, vb_xor, vb_shl, vb_shr, vb_eql, vb_neq, vb_lss, vb_leq, vb_gtr, vb_geq, sb_some, ld1_mk, st1_mk, stA_all, ldA_all, blk_alloc_at, blk_alloc_other, blk_set_same, blk_set_other, Hp.next_alloc, Hp.next_set, set_set, alloc_put_at, newVar_agg, newVar_int, ld3, ld4, ld5, ld22, ld26, ld30, ld81, ld23, ld37, ld28, ld25, ld58, ld82, ld72, st3, st4, st5, st22, st26, st30, st81, st23, st37, st28, st25, st58, st82, st72, fa28_0, fa28_1, fa28_2, fa28_3, fa28_4, fa28_5, fa28_6, fa25_0, fa25_1, fa25_2, fa25_3, fa25_4, fa25_5, fa58_0, fa58_1, fa58_2, fa58_3, fa58_4, fa58_5, fa58_6, ix23, ln23, ln23n, cp23, cp23n, ix37, ln37, ln37n, cp37, cp37n, ix82, ix72, cv81_5, cv5_81, cv5_3, cv3_5, cv22_3, cv22_5, cv5_22, cv3_22, na1, ns1, na2, ns2, na3, ns3, na4, ns4, na5, ns5, na6, ns6, na7, ns7, na8, ns8, na10, ns10, na15, ns15, na16, ns16, na62, ns62, na63, ns63, na64, ns64, na127, ns127, na128, ns128, na255, ns255, na256, ns256, naa, nss, nmm, tm2, td2, tm3, td3, tm4, td4, tm5, td5, tm6, td6, tm8, td8, tm10, td10, tm16, td16, tm32, td32, tm128, td128, tm256, td256, tm272, td272, tmn, tdn, w64, w8, w16, w32, wu64, decide_eq_true, decide_eq_false, List.length_cons, List.length_nil, List.length_append, Nat.le_refl, Nat.lt_irrefl, Nat.add_sub_cancel, K16_0, K16_1, K16_2, K16_3, K16_4, K16_5, K16_6, e1, mk, ↓g_loop, ↓p]
  · rcases hv with (⟨_, h⟩ | ⟨n, g, off, cap, ex, rfl, hn, hs⟩) | ⟨h, _⟩
    · rw [h] at h0; exact absurd rfl h0
    rotate_left
    · rw [h] at h0; exact absurd rfl h0
    · have p := message_loop hs hn (by omega) hl (2 + sz % 272) (by omega) (cap := cap) (ex := ex) (2 + sz % 272) 0 (by omega)
      rw [mp_all b h0, mp_0, z0] at p
      generalize hm : 2 + sz % 272 = m at *
      generalize hR : (List.replicate m (V.s (.int .u8 0))) = R at *
      rw [cg16]
      simp only [fb16, Tryd.f16, Option.getD_some, nth, cond_true, cond_false] at p ⊢
      simp (maxSteps := 5000000) (disch := first | assumption | omega | (refine id ?_; with_unfolding_all rfl) | (simp only [Hp.next_alloc, Hp.next_set, List.length_cons, List.length_nil]; omega)) only [↓g_seq, ↓g_skip, ↓g_ret, ↓g_exit, ↓g_label, ↓g_block, ↓g_cond, ↓g_region, ctx_P, ↓nb_norm, nb_norm, ↓nb_ret, nb_ret, ↓nb_exit, nb_exit, bx_norm, bx_ret, bx_exit, beq_self_eq_true, ↓cb_t, cb_t, ↓cb_f, cb_f, ↓gb_t, gb_t, ↓gb_f, gb_f, ↓ob_some, ob_some, ↓hb_some, hb_some, ↓vb_some, vb_some, ↓xb_some, xb_some, ↓rb_some, rb_some, ↓fb_fn, fb_fn, ↓fin_norm, fin_norm, ↓fin_ret, fin_ret, ↓fin1_one, fin1_one, ↓fin1_nil, fin1_nil, ↓fin1_two, fin1_two, resl_nil, resl_tmp, resl_cell, vload_ptr, gdl_zero, gdl_succ, wv_bool, wv_tup, wd_some, ↓r_nil, ↓r_guard, ↓r_move, ↓r_assign, ↓r_bin, ↓r_un, ↓r_conv, ↓r_load, ↓r_store, ↓r_alloc, ↓r_box, ↓r_pick, ↓r_build, ↓r_buildSlice, ↓r_nilCheck, ↓r_nilCheck0, ↓r_makeFunc, ↓r_makeSlice, ↓r_slice, ↓r_fieldAddr, ↓r_field, ↓r_indexAddr, ↓r_index, ↓r_extract, extract_tup, ↓r_builtin, ↓r_call, put_some, put_none, ev_tmp, ev_const, ev_func, kill_t, kill_f, kill_nil, getD_zero, getD_succ, vpick_b, vstore_ptr, vnil_ptr, vnil_fn, evp_mk, constOp, undefV, l_map, l_map0, l_set0, l_set, l_get0, l_get, List.append_nil, l_app0, List.nil_append, l_app, l_rep, l_rep0, o_bind, Option.bind_some, Option.bind_none, o_map, o_mapn, c_t, c_f, if_true, if_false, reduceCtorEq, Bool.false_eq_true, Bool.or_true, Bool.true_or, Bool.or_false, Bool.false_or, Bool.not_true, Bool.not_false, ↓fo_cons, fo_cons, fo_nil, eq_self, decide_true, decide_false, Int.reduceEq, Int.reduceNe, Int.reduceLT, Int.reduceLE, Int.reduceNeg, Int.reduceToNat, Nat.reduceAdd, Nat.reduceMul, Nat.reduceEqDiff, Nat.reduceBEq, Int.toNat_natCast, Nat.zero_add, Nat.add_zero, Nat.mul_one, vb_add, vb_sub, vb_mul, vb_quo, vb_rem, vb_and, vb_or, vb_xor, vb_shl, vb_shr, vb_eql, vb_neq, vb_lss, vb_leq, vb_gtr, vb_geq, sb_some, ld1_mk, st1_mk, stA_all, ldA_all, blk_alloc_at, blk_alloc_other, blk_set_same, blk_set_other, Hp.next_alloc, Hp.next_set, set_set, alloc_put_at, newVar_agg, newVar_int, ld3, ld4, ld5, ld22, ld26, ld30, ld81, ld23, ld37, ld28, ld25, ld58, ld82, ld72, st3, st4, st5, st22, st26, st30, st81, st23, st37, st28, st25, st58, st82, st72, fa28_0, fa28_1, fa28_2, fa28_3, fa28_4, fa28_5, fa28_6, fa25_0, fa25_1, fa25_2, fa25_3, fa25_4, fa25_5, fa58_0, fa58_1, fa58_2, fa58_3, fa58_4, fa58_5, fa58_6, ix23, ln23, ln23n, cp23, cp23n, ix37, ln37, ln37n, cp37, cp37n, ix82, ix72, cv81_5, cv5_81, cv5_3, cv3_5, cv22_3, cv22_5, cv5_22, cv3_22, na1, ns1, na2, ns2, na3, ns3, na4, ns4, na5, ns5, na6, ns6, na7, ns7, na8, ns8, na10, ns10, na15, ns15, na16, ns16, na62, ns62, na63, ns63, na64, ns64, na127, ns127, na128, ns128, na255, ns255, na256, ns256, naa, nss, nmm, tm2, td2, tm3, td3, tm4, td4, tm5, td5, tm6, td6, tm8, td8, tm10, td10, tm16, td16, tm32, td32, tm128, td128, tm256, td256, tm272, td272, tmn, tdn, w64, w8, w16, w32, wu64, decide_eq_true, decide_eq_false, List.length_cons, List.length_nil, List.length_append, Nat.le_refl, Nat.lt_irrefl, Nat.add_sub_cancel, K16_0, K16_1, K16_2, K16_3, K16_4, K16_5, K16_6, e1, mk, ↓g_loop, ↓p]

/-- A unit's plain data. -/
structure Xu where
  back : Nat
  fore : Nat
  kind : Nat
  status : Nat
  size : Nat
  load : List Nat
structure Xu.Ok (x : Xu) : Prop where
  back : x.back < 256
  fore : x.fore < 256
  kind : x.kind < 256
  status : x.status < 256
  size : x.size < 65536
  load : ∀ b ∈ x.load, b < 256
  len : x.load.length < 2 ^ 63
def Xu.cells (x : Xu) (v : V) : List V := [.s (.int .u8 x.back), .s (.int .u8 x.fore), .s (.int .u8 x.kind), .s (.int .u8 x.status), .s (.int .u16 x.size), v]
def Xu.of (x : Xu) : Ut :=
  { back := x.back % 128, bb := decide (128 ≤ x.back), fore := x.fore % 128, fb := decide (128 ≤ x.fore), kind := x.kind % 3,
    status := if x.kind % 3 = 1 then x.status % 6 else 0, load := if x.kind % 3 = 2 then mess x.size x.load else [] }
theorem mess_bytes (sz : Nat) (b : List Nat) (h : ∀ x ∈ b, x < 256) : ∀ x ∈ mess sz b, x < 256 := by
  intro x hx
  simp only [mess, List.mem_map] at hx
  obtain ⟨i, _, rfl⟩ := hx
  split
  · omega
  · rename_i h0
    have hmod : i % b.length < b.length := Nat.mod_lt _ (by omega)
    unfold messAt
    rw [List.getD_eq_getElem?_getD, List.getElem?_eq_getElem hmod]
    exact h _ (List.getElem_mem hmod)
theorem Xu.of_ok {x : Xu} (h : x.Ok) : x.of.Ok := by
  refine ⟨Nat.mod_lt _ (by omega), Nat.mod_lt _ (by omega), ?_, ?_⟩
  · intro b hb
    simp only [Xu.of] at hb
    split at hb
    · exact mess_bytes _ _ h.load b hb
    · simp at hb
  · have hk : x.kind % 3 < 3 := Nat.mod_lt _ (by omega)
    simp only [Xu.of]
    by_cases h1 : x.kind % 3 = 1
    · right; left; simp [h1]; omega
    · by_cases h2 : x.kind % 3 = 2
      · right; right; simp [h2, mess]; omega
      · left; simp [h1, h2]; omega

theorem bld28 (a c e : Int) (b d : Bool) : vbuild Tryd.prog 28 [(0, .s (.int .u8 a)), (1, .s (.bool b)), (2, .s (.int .u8 c)), (3, .s (.bool d)), (4, .s (.int .u8 e))] = some (.agg [.s (.int .u8 a), .s (.bool b), .s (.int .u8 c), .s (.bool d), .s (.int .u8 e), .s (.int .u8 0), .s (.slice none 0 0)]) := by kernel_rfl
theorem ofUnit {H : Hp} {x : Xu} (hx : x.Ok) {v : V} (hv : By0 H v x.load) :
    ∃ v' H', callL ctx 4 [.agg (x.cells v)] H = some (.agg (x.of.cells v'), H') ∧ Fresh H H' v' x.of.load ∧ Fr H.next H H' := by
  have hk : x.kind % 3 < 3 := Nat.mod_lt _ (by omega)
  have h1 := hx.back
  have h2 := hx.fore
  have h3 := hx.kind
  have h4 := hx.status
  have h5 := hx.size
  have q1 : decide ((128 : Int) ≤ (x.back : Int)) = decide (128 ≤ x.back) := by apply decide_eq_decide.mpr; omega
  have q2 : decide ((128 : Int) ≤ (x.fore : Int)) = decide (128 ≤ x.fore) := by apply decide_eq_decide.mpr; omega
  have fa : ∀ c c' : List V, Fr H.next H (((H.alloc (x.cells v) 25).alloc c 28).alloc c' 28) := fun c c' => ((Fr.alloc H _ _).trans ((Fr.alloc _ _ _).mono (by simp [Hp.alloc]))).trans ((Fr.alloc _ _ _).mono (by simp [Hp.alloc]; omega))
  by_cases k1 : x.kind % 3 = 1
  · have e : x.of = ⟨x.back % 128, decide (128 ≤ x.back), x.fore % 128, decide (128 ≤ x.fore), 1, x.status % 6, []⟩ := by simp [Xu.of, k1]
    rw [e]
    refine ⟨.s (.slice none 0 0), (((H.alloc (x.cells v) 25).alloc z28 28).alloc (Ut.cells ⟨x.back % 128, decide (128 ≤ x.back), x.fore % 128, decide (128 ≤ x.fore), 1, x.status % 6, []⟩ (.s (.slice none 0 0))) 28).set (H.next + 1) ⟨Ut.cells ⟨x.back % 128, decide (128 ≤ x.back), x.fore % 128, decide (128 ≤ x.fore), 1, x.status % 6, []⟩ (.s (.slice none 0 0)), 0, true, 28, true⟩, ?_, .inl ⟨rfl, rfl⟩, (fa _ _).trans (Fr.set _ _ _ (by omega))⟩
    obtain ⟨B, F, K, S, Z, L⟩ := x
    dsimp only [Xu.cells, Ut.cells] at *
    have b := bld28
    rw [cg4]; simp only [Tryd.f4, Option.getD_some]
    simp (maxSteps := 5000000) (disch := first | assumption | omega | (refine id ?_; with_unfolding_all rfl) | (simp only [Hp.next_alloc, Hp.next_set, List.length_cons, List.length_nil]; omega)) only [↓g_seq, ↓g_skip, ↓g_ret, ↓g_exit, ↓g_label, ↓g_block, ↓g_cond, ↓g_region, ctx_P, ↓nb_norm, nb_norm, ↓nb_ret, nb_ret, ↓nb_exit, nb_exit, bx_norm, bx_ret, bx_exit, beq_self_eq_true, ↓cb_t, cb_t, ↓cb_f, cb_f, ↓gb_t, gb_t, ↓gb_f, gb_f, ↓ob_some, ob_some, ↓hb_some, hb_some, ↓vb_some, vb_some, ↓xb_some, xb_some, ↓rb_some, rb_some, ↓fb_fn, fb_fn, ↓fin_norm, fin_norm, ↓fin_ret, fin_ret, ↓fin1_one, fin1_one, ↓fin1_nil, fin1_nil, ↓fin1_two, fin1_two, resl_nil, resl_tmp, resl_cell, vload_ptr, gdl_zero, gdl_succ, wv_bool, wv_tup, wd_some, ↓r_nil, ↓r_guard, ↓r_move, ↓r_assign, ↓r_bin, ↓r_un, ↓r_conv, ↓r_load, ↓r_store, ↓r_alloc, ↓r_box, ↓r_pick, ↓r_build, ↓r_buildSlice, ↓r_nilCheck, ↓r_nilCheck0, ↓r_makeFunc, ↓r_makeSlice, ↓r_slice, ↓r_fieldAddr, ↓r_field, ↓r_indexAddr, ↓r_index, ↓r_extract, extract_tup, ↓r_builtin, ↓r_call, put_some, put_none, ev_tmp, ev_const, ev_func, kill_t, kill_f, kill_nil, getD_zero, getD_succ, vpick_b, vstore_ptr, vnil_ptr, vnil_fn, evp_mk, constOp, undefV, l_map, l_map0, l_set0, l_set, l_get0, l_get, List.append_nil, l_app0, List.nil_append, l_app, l_rep, l_rep0, o_bind, Option.bind_some, Option.bind_none, o_map, o_mapn, c_t, c_f, if_true, if_false, reduceCtorEq, Bool.false_eq_true, Bool.or_true, Bool.true_or, Bool.or_false, Bool.false_or, Bool.not_true, Bool.not_false, ↓fo_cons, fo_cons, fo_nil, eq_self, decide_true, decide_false, Int.reduceEq, Int.reduceNe, Int.reduceLT, Int.reduceLE, Int.reduceNeg, Int.reduceToNat, Nat.reduceAdd, Nat.reduceMul, Nat.reduceEqDiff, Nat.reduceBEq, Int.toNat_natCast, Nat.zero_add, Nat.add_zero, Nat.mul_one, vb_add, vb_sub, vb_mul, vb_quo, vb_rem, vb_and, vb_or, vb_xor, vb_shl, vb_shr, vb_eql, vb_neq, vb_lss, vb_leq, vb_gtr, vb_geq, sb_some, ld1_mk, st1_mk, stA_all, ldA_all, blk_alloc_at, blk_alloc_other, blk_set_same, blk_set_other, Hp.next_alloc, Hp.next_set, set_set, alloc_put_at, newVar_agg, newVar_int, ld3, ld4, ld5, ld22, ld26, ld30, ld81, ld23, ld37, ld28, ld25, ld58, ld82, ld72, st3, st4, st5, st22, st26, st30, st81, st23, st37, st28, st25, st58, st82, st72, fa28_0, fa28_1, fa28_2, fa28_3, fa28_4, fa28_5, fa28_6, fa25_0, fa25_1, fa25_2, fa25_3, fa25_4, fa25_5, fa58_0, fa58_1, fa58_2, fa58_3, fa58_4, fa58_5, fa58_6, ix23, ln23, ln23n, cp23, cp23n, ix37, ln37, ln37n, cp37, cp37n, ix82, ix72, cv81_5, cv5_81, cv5_3, cv3_5, cv22_3, cv22_5, cv5_22, cv3_22, na1, ns1, na2, ns2, na3, ns3, na4, ns4, na5, ns5, na6, ns6, na7, ns7, na8, ns8, na10, ns10, na15, ns15, na16, ns16, na62, ns62, na63, ns63, na64, ns64, na127, ns127, na128, ns128, na255, ns255, na256, ns256, naa, nss, nmm, tm2, td2, tm3, td3, tm4, td4, tm5, td5, tm6, td6, tm8, td8, tm10, td10, tm16, td16, tm32, td32, tm128, td128, tm256, td256, tm272, td272, tmn, tdn, w64, w8, w16, w32, wu64, decide_eq_true, decide_eq_false, List.length_cons, List.length_nil, List.length_append, Nat.le_refl, Nat.lt_irrefl, Nat.add_sub_cancel, K4_0, K4_1, K4_2, K4_3, K4_4, K4_5, K4_6, K4_7, al28, z28, b, q1, q2, k1]
    try rfl
  · by_cases k2 : x.kind % 3 = 2
    · have e : x.of = ⟨x.back % 128, decide (128 ≤ x.back), x.fore % 128, decide (128 ≤ x.fore), 2, 0, mess x.size x.load⟩ := by simp [Xu.of, k2]
      have hml : (mess x.size x.load).length = 2 + x.size % 272 := by simp [mess]
      have hf3 := fa z28 (Ut.cells ⟨x.back % 128, decide (128 ≤ x.back), x.fore % 128, decide (128 ≤ x.fore), 2, 0, []⟩ (.s (.slice none 0 0)))
      have m := message (hv.fr hf3 (Nat.le_refl _)) hx.len x.size h5
      have ow := Own.of_alloc (((H.alloc (x.cells v) 25).alloc z28 28).alloc (Ut.cells ⟨x.back % 128, decide (128 ≤ x.back), x.fore % 128, decide (128 ≤ x.fore), 2, 0, []⟩ (.s (.slice none 0 0))) 28) (mess x.size x.load)
      have fm := Fr.alloc (((H.alloc (x.cells v) 25).alloc z28 28).alloc (Ut.cells ⟨x.back % 128, decide (128 ≤ x.back), x.fore % 128, decide (128 ≤ x.fore), 2, 0, []⟩ (.s (.slice none 0 0))) 28) (bs (mess x.size x.load)) 5
      simp only [Hp.next_alloc] at m ow fm
      rw [e]
      refine ⟨.sl (H.next + 3) 0 0 (2 + x.size % 272) (2 + x.size % 272) true 1, (((((H.alloc (x.cells v) 25).alloc z28 28).alloc (Ut.cells ⟨x.back % 128, decide (128 ≤ x.back), x.fore % 128, decide (128 ≤ x.fore), 2, 0, []⟩ (.s (.slice none 0 0))) 28).alloc (bs (mess x.size x.load)) 5).set (H.next + 2) ⟨Ut.cells ⟨x.back % 128, decide (128 ≤ x.back), x.fore % 128, decide (128 ≤ x.fore), 2, 0, []⟩ (.sl (H.next + 3) 0 0 (2 + x.size % 272) (2 + x.size % 272) true 1), 0, true, 28, true⟩).set (H.next + 1) ⟨Ut.cells ⟨x.back % 128, decide (128 ≤ x.back), x.fore % 128, decide (128 ≤ x.fore), 2, 0, []⟩ (.sl (H.next + 3) 0 0 (2 + x.size % 272) (2 + x.size % 272) true 1), 0, true, 28, true⟩, ?_, .inr ⟨H.next + 3, by rw [hml], by omega, by simp [Hp.alloc, Hp.set], ?_⟩, ((hf3.trans (fm.mono (by omega))).trans (Fr.set _ _ _ (by omega))).trans (Fr.set _ _ _ (by omega))⟩
      · generalize hM : bs (mess x.size x.load) = M at *
        generalize hQ : 2 + x.size % 272 = Q at *
        obtain ⟨B, F, K, S, Z, L⟩ := x
        dsimp only [Xu.cells, Ut.cells] at *
        have b := bld28
        have z2 : ((2 : Nat) : Int) = 2 := rfl
        have z0 : ((0 : Nat) : Int) = 0 := rfl
        rw [z2, z0] at m
        rw [z2, z0]
        rw [cg4]; simp only [Tryd.f4, Option.getD_some]
        simp only [z28] at m
        simp (maxSteps := 5000000) (disch := first | assumption | omega | (refine id ?_; with_unfolding_all rfl) | (simp only [Hp.next_alloc, Hp.next_set, List.length_cons, List.length_nil]; omega)) only [↓g_seq, ↓g_skip, ↓g_ret, ↓g_exit, ↓g_label, ↓g_block, ↓g_cond, ↓g_region, ctx_P, ↓nb_norm, nb_norm, ↓nb_ret, nb_ret, ↓nb_exit, nb_exit, bx_norm, bx_ret, bx_exit, beq_self_eq_true, ↓cb_t, cb_t, ↓cb_f, cb_f, ↓gb_t, gb_t, ↓gb_f, gb_f, ↓ob_some, ob_some, ↓hb_some, hb_some, ↓vb_some, vb_some, ↓xb_some, xb_some, ↓rb_some, rb_some, ↓fb_fn, fb_fn, ↓fin_norm, fin_norm, ↓fin_ret, fin_ret, ↓fin1_one, fin1_one, ↓fin1_nil, fin1_nil, ↓fin1_two, fin1_two, resl_nil, resl_tmp, resl_cell, vload_ptr, gdl_zero, gdl_succ, wv_bool, wv_tup, wd_some, ↓r_nil, ↓r_guard, ↓r_move, ↓r_assign, ↓r_bin, ↓r_un, ↓r_conv, ↓r_load, ↓r_store, ↓r_alloc, ↓r_box, ↓r_pick, ↓r_build, ↓r_buildSlice, ↓r_nilCheck, ↓r_nilCheck0, ↓r_makeFunc, ↓r_makeSlice, ↓r_slice, ↓r_fieldAddr, ↓r_field, ↓r_indexAddr, ↓r_index, ↓r_extract, extract_tup, ↓r_builtin, ↓r_call, put_some, put_none, ev_tmp, ev_const, ev_func, kill_t, kill_f, kill_nil, getD_zero, getD_succ, vpick_b, vstore_ptr, vnil_ptr, vnil_fn, evp_mk, constOp, undefV, l_map, l_map0, l_set0, l_set, l_get0, l_get, List.append_nil, l_app0, List.nil_append, l_app, l_rep, l_rep0, o_bind, Option.bind_some, Option.bind_none, o_map, o_mapn, c_t, c_f, if_true, if_false, reduceCtorEq, Bool.false_eq_true, Bool.or_true, Bool.true_or, Bool.or_false, Bool.false_or, Bool.not_true, Bool.not_false, ↓fo_cons, fo_cons, fo_nil, eq_self, decide_true, decide_false, Int.reduceEq, Int.reduceNe, Int.reduceLT, Int.reduceLE, Int.reduceNeg, Int.reduceToNat, Nat.reduceAdd, Nat.reduceMul, Nat.reduceEqDiff, Nat.reduceBEq, Int.toNat_natCast, Nat.zero_add, Nat.add_zero, Nat.mul_one, vb_add, vb_sub, vb_mul, vb_quo, vb_rem, vb_and, vb_or, vb_xor, vb_shl, vb_shr, vb_eql, vb_neq, vb_lss, vb_leq, vb_gtr, vb_geq, sb_some, ld1_mk, st1_mk, stA_all, ldA_all, blk_alloc_at, blk_alloc_other, blk_set_same, blk_set_other, Hp.next_alloc, Hp.next_set, set_set, alloc_put_at, newVar_agg, newVar_int, ld3, ld4, ld5, ld22, ld26, ld30, ld81, ld23, ld37, ld28, ld25, ld58, ld82, ld72, st3, st4, st5, st22, st26, st30, st81, st23, st37, st28, st25, st58, st82, st72, fa28_0, fa28_1, fa28_2, fa28_3, fa28_4, fa28_5, fa28_6, fa25_0, fa25_1, fa25_2, fa25_3, fa25_4, fa25_5, fa58_0, fa58_1, fa58_2, fa58_3, fa58_4, fa58_5, fa58_6, ix23, ln23, ln23n, cp23, cp23n, ix37, ln37, ln37n, cp37, cp37n, ix82, ix72, cv81_5, cv5_81, cv5_3, cv3_5, cv22_3, cv22_5, cv5_22, cv3_22, na1, ns1, na2, ns2, na3, ns3, na4, ns4, na5, ns5, na6, ns6, na7, ns7, na8, ns8, na10, ns10, na15, ns15, na16, ns16, na62, ns62, na63, ns63, na64, ns64, na127, ns127, na128, ns128, na255, ns255, na256, ns256, naa, nss, nmm, tm2, td2, tm3, td3, tm4, td4, tm5, td5, tm6, td6, tm8, td8, tm10, td10, tm16, td16, tm32, td32, tm128, td128, tm256, td256, tm272, td272, tmn, tdn, w64, w8, w16, w32, wu64, decide_eq_true, decide_eq_false, List.length_cons, List.length_nil, List.length_append, Nat.le_refl, Nat.lt_irrefl, Nat.add_sub_cancel, K4_0, K4_1, K4_2, K4_3, K4_4, K4_5, K4_6, K4_7, al28, z28, b, q1, q2, k1, k2, z2, m]
        try rfl
      · unfold Own
        rw [Hp.get_set_other _ _ _ _ (by omega), Hp.get_set_other _ _ _ _ (by omega)]
        exact ow
    · have k0 : x.kind % 3 = 0 := by omega
      have e : x.of = ⟨x.back % 128, decide (128 ≤ x.back), x.fore % 128, decide (128 ≤ x.fore), 0, 0, []⟩ := by simp [Xu.of, k0]
      rw [e]
      refine ⟨.s (.slice none 0 0), (((H.alloc (x.cells v) 25).alloc z28 28).alloc (Ut.cells ⟨x.back % 128, decide (128 ≤ x.back), x.fore % 128, decide (128 ≤ x.fore), 0, 0, []⟩ (.s (.slice none 0 0))) 28).set (H.next + 1) ⟨Ut.cells ⟨x.back % 128, decide (128 ≤ x.back), x.fore % 128, decide (128 ≤ x.fore), 0, 0, []⟩ (.s (.slice none 0 0)), 0, true, 28, true⟩, ?_, .inl ⟨rfl, rfl⟩, (fa _ _).trans (Fr.set _ _ _ (by omega))⟩
      obtain ⟨B, F, K, S, Z, L⟩ := x
      dsimp only [Xu.cells, Ut.cells] at *
      have b := bld28
      rw [cg4]; simp only [Tryd.f4, Option.getD_some]
      simp (maxSteps := 5000000) (disch := first | assumption | omega | (refine id ?_; with_unfolding_all rfl) | (simp only [Hp.next_alloc, Hp.next_set, List.length_cons, List.length_nil]; omega)) only [↓g_seq, ↓g_skip, ↓g_ret, ↓g_exit, ↓g_label, ↓g_block, ↓g_cond, ↓g_region, ctx_P, ↓nb_norm, nb_norm, ↓nb_ret, nb_ret, ↓nb_exit, nb_exit, bx_norm, bx_ret, bx_exit, beq_self_eq_true, ↓cb_t, cb_t, ↓cb_f, cb_f, ↓gb_t, gb_t, ↓gb_f, gb_f, ↓ob_some, ob_some, ↓hb_some, hb_some, ↓vb_some, vb_some, ↓xb_some, xb_some, ↓rb_some, rb_some, ↓fb_fn, fb_fn, ↓fin_norm, fin_norm, ↓fin_ret, fin_ret, ↓fin1_one, fin1_one, ↓fin1_nil, fin1_nil, ↓fin1_two, fin1_two, resl_nil, resl_tmp, resl_cell, vload_ptr, gdl_zero, gdl_succ, wv_bool, wv_tup, wd_some, ↓r_nil, ↓r_guard, ↓r_move, ↓r_assign, ↓r_bin, ↓r_un, ↓r_conv, ↓r_load, ↓r_store, ↓r_alloc, ↓r_box, ↓r_pick, ↓r_build, ↓r_buildSlice, ↓r_nilCheck, ↓r_nilCheck0, ↓r_makeFunc, ↓r_makeSlice, ↓r_slice, ↓r_fieldAddr, ↓r_field, ↓r_indexAddr, ↓r_index, ↓r_extract, extract_tup, ↓r_builtin, ↓r_call, put_some, put_none, ev_tmp, ev_const, ev_func, kill_t, kill_f, kill_nil, getD_zero, getD_succ, vpick_b, vstore_ptr, vnil_ptr, vnil_fn, evp_mk, constOp, undefV, l_map, l_map0, l_set0, l_set, l_get0, l_get, List.append_nil, l_app0, List.nil_append, l_app, l_rep, l_rep0, o_bind, Option.bind_some, Option.bind_none, o_map, o_mapn, c_t, c_f, if_true, if_false, reduceCtorEq, Bool.false_eq_true, Bool.or_true, Bool.true_or, Bool.or_false, Bool.false_or, Bool.not_true, Bool.not_false, ↓fo_cons, fo_cons, fo_nil, eq_self, decide_true, decide_false, Int.reduceEq, Int.reduceNe, Int.reduceLT, Int.reduceLE, Int.reduceNeg, Int.reduceToNat, Nat.reduceAdd, Nat.reduceMul, Nat.reduceEqDiff, Nat.reduceBEq, Int.toNat_natCast, Nat.zero_add, Nat.add_zero, Nat.mul_one, vb_add, vb_sub, vb_mul, vb_quo, vb_rem, vb_and, vb_or, vb_xor, vb_shl, vb_shr, vb_eql, vb_neq, vb_lss, vb_leq, vb_gtr, vb_geq, sb_some, ld1_mk, st1_mk, stA_all, ldA_all, blk_alloc_at, blk_alloc_other, blk_set_same, blk_set_other, Hp.next_alloc, Hp.next_set, set_set, alloc_put_at, newVar_agg, newVar_int, ld3, ld4, ld5, ld22, ld26, ld30, ld81, ld23, ld37, ld28, ld25, ld58, ld82, ld72, st3, st4, st5, st22, st26, st30, st81, st23, st37, st28, st25, st58, st82, st72, fa28_0, fa28_1, fa28_2, fa28_3, fa28_4, fa28_5, fa28_6, fa25_0, fa25_1, fa25_2, fa25_3, fa25_4, fa25_5, fa58_0, fa58_1, fa58_2, fa58_3, fa58_4, fa58_5, fa58_6, ix23, ln23, ln23n, cp23, cp23n, ix37, ln37, ln37n, cp37, cp37n, ix82, ix72, cv81_5, cv5_81, cv5_3, cv3_5, cv22_3, cv22_5, cv5_22, cv3_22, na1, ns1, na2, ns2, na3, ns3, na4, ns4, na5, ns5, na6, ns6, na7, ns7, na8, ns8, na10, ns10, na15, ns15, na16, ns16, na62, ns62, na63, ns63, na64, ns64, na127, ns127, na128, ns128, na255, ns255, na256, ns256, naa, nss, nmm, tm2, td2, tm3, td3, tm4, td4, tm5, td5, tm6, td6, tm8, td8, tm10, td10, tm16, td16, tm32, td32, tm128, td128, tm256, td256, tm272, td272, tmn, tdn, w64, w8, w16, w32, wu64, decide_eq_true, decide_eq_false, List.length_cons, List.length_nil, List.length_append, Nat.le_refl, Nat.lt_irrefl, Nat.add_sub_cancel, K4_0, K4_1, K4_2, K4_3, K4_4, K4_5, K4_6, K4_7, al28, z28, b, q1, q2, k0]
      try rfl
end Go.Proofs.YtnicmcdnpeimoaaDoor
