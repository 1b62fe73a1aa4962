/-
  Octets are read as units.
-/
import Derived.Test.YtnicmcdnpeimoaaDoorB9
set_option linter.unusedVariables false
set_option linter.unusedSimpArgs false
set_option maxRecDepth 100000
set_option maxHeartbeats 4000000
namespace Go.Proofs.YtnicmcdnpeimoaaDoor
open Go.Am
attribute [local congr] fo_first sb_first ob_first hb_first vb_first xb_first cb_first nb_first gb_first fb_first rb_first db_first run_first go_first codeL_first

def z28 : List V := [.s (.int .u8 0), .s (.bool false), .s (.int .u8 0), .s (.bool false), .s (.int .u8 0), .s (.int .u8 0), .s (.slice none 0 0)]
theorem al28 (H : Hp) : allocV Tryd.prog H 28 = some (.ptr H.next 0 0, H.alloc z28 28) := by kernel_rfl

theorem Ut.rest_len {u : Ut} (hu : u.Ok) : u.rest.length ≤ 273 := by
  have := hu.kind
  unfold Ut.rest
  split
  · simp
  · rcases this with ⟨_, _, h⟩ | ⟨_, _, h⟩ | ⟨_, _, _, h⟩
    · rw [h]; simp
    · rw [h]; simp
    · exact h
theorem Ut.octets_len (u : Ut) : u.octets.length = u.rest.length + 3 := by simp [Ut.octets]
theorem Ut.octets_bytes {u : Ut} (hu : u.Ok) : ∀ x ∈ u.octets, x < 256 := by
  have h1 := hu.back
  have h2 := hu.fore
  intro x hx
  simp only [Ut.octets, List.mem_append, List.mem_cons, List.not_mem_nil, or_false] at hx
  rcases hx with (rfl | rfl | rfl) | hx
  · cases u.bb <;> simp <;> omega
  · cases u.fb <;> simp <;> omega
  · omega
  · unfold Ut.rest at hx
    split at hx
    · rename_i h3
      have := hu.kind
      simp at hx
      omega
    · exact hu.bytes x hx

/-- What is handed on: a slice of its own, without room behind it, or none. -/
def Fresh (H H' : Hp) (v : V) (l : List Nat) : Prop := (v = .s (.slice none 0 0) ∧ l = []) ∨ ∃ n, v = .sl n 0 0 l.length l.length true 1 ∧ H.next ≤ n ∧ n < H'.next ∧ Own H' n 0 l []

theorem decode {H : Hp} {u : Ut} (hu : u.Ok) {n g off cap : Nat} {ex : Bool} (hs : Sl H n g off u.octets) (hn : n < H.next) :
    ∃ v H', callL ctx 6 [.sl n g off u.octets.length cap ex 1] H = some (.tup [.agg (u.cells v), .s (.int .i64 0)], H') ∧ Fresh H H' v u.load ∧ Fr H.next H H' := by
  have hlen := Ut.octets_len u
  have hrest := Ut.rest_len hu
  have r0 := hs.at (i := 0) (by omega)
  have r1 := hs.at (i := 1) (by omega)
  have r2 := hs.at (i := 2) (by omega)
  have v0 : u.octets[0]'(by omega) = cond u.bb (u.back + 128) u.back := rfl
  have v1 : u.octets[1]'(by omega) = cond u.fb (u.fore + 128) u.fore := rfl
  have v2 : u.octets[2]'(by omega) = min u.rest.length 63 := rfl
  rw [v0] at r0
  rw [v1] at r1
  rw [v2] at r2
  simp only [Nat.add_zero] at r0
  clear v0 v1 v2
  have hb := hu.back
  have hf := hu.fore
  have a0 : cond u.bb (u.back + 128) u.back < 256 := by cases u.bb <;> simp <;> omega
  have a1 : cond u.bb (u.back + 128) u.back % 128 = u.back := by cases u.bb <;> simp <;> omega
  have a2 : decide (128 ≤ cond u.bb (u.back + 128) u.back) = u.bb := by cases u.bb <;> simp <;> omega
  have b0 : cond u.fb (u.fore + 128) u.fore < 256 := by cases u.fb <;> simp <;> omega
  have b1 : cond u.fb (u.fore + 128) u.fore % 128 = u.fore := by cases u.fb <;> simp <;> omega
  have b2 : decide (128 ≤ cond u.fb (u.fore + 128) u.fore) = u.fb := by cases u.fb <;> simp <;> omega
  have m1 := fun G => number (cond u.bb (u.back + 128) u.back) a0 G
  have m2 := fun G => number (cond u.fb (u.fore + 128) u.fore) b0 G
  rw [a1, a2] at m1
  rw [b1, b2] at m2
  have l1 := fun G => least (u.rest.length) 63 G
  have l2 : (if (u.rest.length : Int) < 63 then (u.rest.length : Int) else 63) = ((min u.rest.length 63 : Nat) : Int) := by
    split <;> omega
  have l3 := wu8n (min u.rest.length 63) (by omega)
  have hkk := hu.kind
  rw [hlen]
  generalize hA : cond u.bb (u.back + 128) u.back = A at *
  generalize hB : cond u.fb (u.fore + 128) u.fore = B at *
  have f0 := Fr.alloc H z28 28
  have o6_4 := DO6_4; have p6_4 := DP6_4; simp only [fb6, Tryd.f6, Option.getD_some, opsOf, if_true, if_false, Nat.reduceEqDiff] at o6_4 p6_4
  have o6_16 := DO6_16; have p6_16 := DP6_16; simp only [fb6, Tryd.f6, Option.getD_some, opsOf, if_true, if_false, Nat.reduceEqDiff] at o6_16 p6_16
  generalize hR : u.rest.length = R at *
  rcases hkk with ⟨h3, h4, h5⟩ | ⟨h3, h4, h5⟩ | ⟨h3, h4, h5, h6⟩
  · have hr : R = 0 := by rw [← hR]; simp [Ut.rest, h3, h5]
    refine ⟨.s (.slice none 0 0), ((H.alloc z28 28).alloc (u.cells (.s (.slice none 0 0))) 28).set H.next ⟨u.cells (.s (.slice none 0 0)), 0, true, 28, true⟩, ?_, .inl ⟨rfl, h5⟩, ?_⟩
    · rw [cg6]; simp only [Tryd.f6, Option.getD_some]
      simp (maxSteps := 5000000) (disch := first | assumption | omega | (refine id ?_; with_unfolding_all rfl) | (simp only [Hp.next_alloc, Hp.next_set, List.length_cons, List.length_nil]; omega)) only [↓g_seq, ↓g_skip, ↓g_ret, ↓g_exit, ↓g_label, ↓g_block, ↓g_cond, ↓g_region, ctx_P, ↓nb_norm, nb_norm, ↓nb_ret, nb_ret, ↓nb_exit, nb_exit, bx_norm, bx_ret, bx_exit, beq_self_eq_true, ↓cb_t, cb_t, ↓cb_f, cb_f, ↓gb_t, gb_t, ↓gb_f, gb_f, ↓ob_some, ob_some, ↓hb_some, hb_some, ↓vb_some, vb_some, ↓xb_some, xb_some, ↓rb_some, rb_some, ↓fb_fn, fb_fn, ↓fin_norm, fin_norm, ↓fin_ret, fin_ret, ↓fin1_one, fin1_one, ↓fin1_nil, fin1_nil, ↓fin1_two, fin1_two, resl_nil, resl_tmp, resl_cell, vload_ptr, gdl_zero, gdl_succ, wv_bool, wv_tup, wd_some, ↓r_nil, ↓r_guard, ↓r_move, ↓r_assign, ↓r_bin, ↓r_un, ↓r_conv, ↓r_load, ↓r_store, ↓r_alloc, ↓r_box, ↓r_pick, ↓r_build, ↓r_buildSlice, ↓r_nilCheck, ↓r_nilCheck0, ↓r_makeFunc, ↓r_makeSlice, ↓r_slice, ↓r_fieldAddr, ↓r_field, ↓r_indexAddr, ↓r_index, ↓r_extract, extract_tup, ↓r_builtin, ↓r_call, put_some, put_none, ev_tmp, ev_const, ev_func, kill_t, kill_f, kill_nil, getD_zero, getD_succ, vpick_b, vstore_ptr, vnil_ptr, vnil_fn, evp_mk, constOp, undefV, l_map, l_map0, l_set0, l_set, l_get0, l_get, List.append_nil, l_app0, List.nil_append, l_app, l_rep, l_rep0, o_bind, Option.bind_some, Option.bind_none, o_map, o_mapn, c_t, c_f, if_true, if_false, reduceCtorEq, Bool.false_eq_true, Bool.or_true, Bool.true_or, Bool.or_false, Bool.false_or, Bool.not_true, Bool.not_false, ↓fo_cons, fo_cons, fo_nil, eq_self, decide_true, decide_false, Int.reduceEq, Int.reduceNe, Int.reduceLT, Int.reduceLE, Int.reduceNeg, Int.reduceToNat, Nat.reduceAdd, Nat.reduceMul, Nat.reduceEqDiff, Nat.reduceBEq, Int.toNat_natCast, Nat.zero_add, Nat.add_zero, Nat.mul_one, vb_add, vb_sub, vb_mul, vb_quo, vb_rem, vb_and, vb_or, vb_xor, vb_shl, vb_shr, vb_eql, vb_neq, vb_lss, vb_leq, vb_gtr, vb_geq, sb_some, ld1_mk, st1_mk, stA_all, ldA_all, blk_alloc_at, blk_alloc_other, blk_set_same, blk_set_other, Hp.next_alloc, Hp.next_set, set_set, alloc_put_at, newVar_agg, newVar_int, ld3, ld4, ld5, ld22, ld26, ld30, ld81, ld23, ld37, ld28, ld25, ld58, ld82, ld72, st3, st4, st5, st22, st26, st30, st81, st23, st37, st28, st25, st58, st82, st72, fa28_0, fa28_1, fa28_2, fa28_3, fa28_4, fa28_5, fa28_6, fa25_0, fa25_1, fa25_2, fa25_3, fa25_4, fa25_5, fa58_0, fa58_1, fa58_2, fa58_3, fa58_4, fa58_5, fa58_6, ix23, ln23, ln23n, cp23, cp23n, ix37, ln37, ln37n, cp37, cp37n, ix82, ix72, cv81_5, cv5_81, cv5_3, cv3_5, cv22_3, cv22_5, cv5_22, cv3_22, na1, ns1, na2, ns2, na3, ns3, na4, ns4, na5, ns5, na6, ns6, na7, ns7, na8, ns8, na10, ns10, na15, ns15, na16, ns16, na62, ns62, na63, ns63, na64, ns64, na127, ns127, na128, ns128, na255, ns255, na256, ns256, naa, nss, nmm, tm2, td2, tm3, td3, tm4, td4, tm5, td5, tm6, td6, tm8, td8, tm10, td10, tm16, td16, tm32, td32, tm128, td128, tm256, td256, tm272, td272, tmn, tdn, w64, w8, w16, w32, wu64, decide_eq_true, decide_eq_false, List.length_cons, List.length_nil, List.length_append, Nat.le_refl, Nat.lt_irrefl, Nat.add_sub_cancel, g_open, dr_nil, dr_cons, db_some, gw_none, gw_some, as_move, as_assign, as_bin, as_un, as_conv, as_load, as_store, as_alloc, as_box, as_pick, as_build, as_buildSlice, as_nilCheck, as_makeFunc, as_makeSlice, as_slice, as_fieldAddr, as_field, as_indexAddr, as_index, as_extract, as_builtin, as_call, sr_some, same_load, same_bin, same_conv, same_slice, ck1_some, ck0_some, ckall_nil, ckall_cons, heapAt_hAt, hAt_some, hAt_none, beq_int, beq_bool, beq_ptr, beq_sl, beq_slnil, Bool.and_true, Bool.true_and, decide_true, List.append_assoc, ↓o6_4, ↓p6_4, ↓o6_16, ↓p6_16, K6_0, K6_1, K6_2, K6_3, K6_4, K6_5, K6_6, K6_7, K6_8, K6_9, K6_10, K6_11, K6_12, K6_13, K6_14, K6_15, K6_16, K6_17, al28, z28, r0, r1, r2, m1, m2, l1, l2, l3, Ut.cells, h3, h4]
      rfl
    · exact (f0.trans ((Fr.alloc _ _ _).mono (by simp [Hp.alloc]))).trans (Fr.set _ _ _ (Nat.le_refl _))
  · have hr : u.rest = [u.status] := by simp [Ut.rest, h3]
    have hr1 : R = 1 := by rw [← hR, hr]; rfl
    have r3 := hs.at (i := 3) (by omega)
    have v3 : u.octets[3]'(by omega) = u.status := by simp [Ut.octets, hr]
    rw [v3] at r3
    refine ⟨.s (.slice none 0 0), ((H.alloc z28 28).alloc (u.cells (.s (.slice none 0 0))) 28).set H.next ⟨u.cells (.s (.slice none 0 0)), 0, true, 28, true⟩, ?_, .inl ⟨rfl, h5⟩, ?_⟩
    · rw [cg6]; simp only [Tryd.f6, Option.getD_some]
      simp (maxSteps := 5000000) (disch := first | assumption | omega | (refine id ?_; with_unfolding_all rfl) | (simp only [Hp.next_alloc, Hp.next_set, List.length_cons, List.length_nil]; omega)) only [↓g_seq, ↓g_skip, ↓g_ret, ↓g_exit, ↓g_label, ↓g_block, ↓g_cond, ↓g_region, ctx_P, ↓nb_norm, nb_norm, ↓nb_ret, nb_ret, ↓nb_exit, nb_exit, bx_norm, bx_ret, bx_exit, beq_self_eq_true, ↓cb_t, cb_t, ↓cb_f, cb_f, ↓gb_t, gb_t, ↓gb_f, gb_f, ↓ob_some, ob_some, ↓hb_some, hb_some, ↓vb_some, vb_some, ↓xb_some, xb_some, ↓rb_some, rb_some, ↓fb_fn, fb_fn, ↓fin_norm, fin_norm, ↓fin_ret, fin_ret, ↓fin1_one, fin1_one, ↓fin1_nil, fin1_nil, ↓fin1_two, fin1_two, resl_nil, resl_tmp, resl_cell, vload_ptr, gdl_zero, gdl_succ, wv_bool, wv_tup, wd_some, ↓r_nil, ↓r_guard, ↓r_move, ↓r_assign, ↓r_bin, ↓r_un, ↓r_conv, ↓r_load, ↓r_store, ↓r_alloc, ↓r_box, ↓r_pick, ↓r_build, ↓r_buildSlice, ↓r_nilCheck, ↓r_nilCheck0, ↓r_makeFunc, ↓r_makeSlice, ↓r_slice, ↓r_fieldAddr, ↓r_field, ↓r_indexAddr, ↓r_index, ↓r_extract, extract_tup, ↓r_builtin, ↓r_call, put_some, put_none, ev_tmp, ev_const, ev_func, kill_t, kill_f, kill_nil, getD_zero, getD_succ, vpick_b, vstore_ptr, vnil_ptr, vnil_fn, evp_mk, constOp, undefV, l_map, l_map0, l_set0, l_set, l_get0, l_get, List.append_nil, l_app0, List.nil_append, l_app, l_rep, l_rep0, o_bind, Option.bind_some, Option.bind_none, o_map, o_mapn, c_t, c_f, if_true, if_false, reduceCtorEq, Bool.false_eq_true, Bool.or_true, Bool.true_or, Bool.or_false, Bool.false_or, Bool.not_true, Bool.not_false, ↓fo_cons, fo_cons, fo_nil, eq_self, decide_true, decide_false, Int.reduceEq, Int.reduceNe, Int.reduceLT, Int.reduceLE, Int.reduceNeg, Int.reduceToNat, Nat.reduceAdd, Nat.reduceMul, Nat.reduceEqDiff, Nat.reduceBEq, Int.toNat_natCast, Nat.zero_add, Nat.add_zero, Nat.mul_one, vb_add, vb_sub, vb_mul, vb_quo, vb_rem, vb_and, vb_or, vb_xor, vb_shl, vb_shr, vb_eql, vb_neq, vb_lss, vb_leq, vb_gtr, vb_geq, sb_some, ld1_mk, st1_mk, stA_all, ldA_all, blk_alloc_at, blk_alloc_other, blk_set_same, blk_set_other, Hp.next_alloc, Hp.next_set, set_set, alloc_put_at, newVar_agg, newVar_int, ld3, ld4, ld5, ld22, ld26, ld30, ld81, ld23, ld37, ld28, ld25, ld58, ld82, ld72, st3, st4, st5, st22, st26, st30, st81, st23, st37, st28, st25, st58, st82, st72, fa28_0, fa28_1, fa28_2, fa28_3, fa28_4, fa28_5, fa28_6, fa25_0, fa25_1, fa25_2, fa25_3, fa25_4, fa25_5, fa58_0, fa58_1, fa58_2, fa58_3, fa58_4, fa58_5, fa58_6, ix23, ln23, ln23n, cp23, cp23n, ix37, ln37, ln37n, cp37, cp37n, ix82, ix72, cv81_5, cv5_81, cv5_3, cv3_5, cv22_3, cv22_5, cv5_22, cv3_22, na1, ns1, na2, ns2, na3, ns3, na4, ns4, na5, ns5, na6, ns6, na7, ns7, na8, ns8, na10, ns10, na15, ns15, na16, ns16, na62, ns62, na63, ns63, na64, ns64, na127, ns127, na128, ns128, na255, ns255, na256, ns256, naa, nss, nmm, tm2, td2, tm3, td3, tm4, td4, tm5, td5, tm6, td6, tm8, td8, tm10, td10, tm16, td16, tm32, td32, tm128, td128, tm256, td256, tm272, td272, tmn, tdn, w64, w8, w16, w32, wu64, decide_eq_true, decide_eq_false, List.length_cons, List.length_nil, List.length_append, Nat.le_refl, Nat.lt_irrefl, Nat.add_sub_cancel, g_open, dr_nil, dr_cons, db_some, gw_none, gw_some, as_move, as_assign, as_bin, as_un, as_conv, as_load, as_store, as_alloc, as_box, as_pick, as_build, as_buildSlice, as_nilCheck, as_makeFunc, as_makeSlice, as_slice, as_fieldAddr, as_field, as_indexAddr, as_index, as_extract, as_builtin, as_call, sr_some, same_load, same_bin, same_conv, same_slice, ck1_some, ck0_some, ckall_nil, ckall_cons, heapAt_hAt, hAt_some, hAt_none, beq_int, beq_bool, beq_ptr, beq_sl, beq_slnil, Bool.and_true, Bool.true_and, decide_true, List.append_assoc, ↓o6_4, ↓p6_4, ↓o6_16, ↓p6_16, K6_0, K6_1, K6_2, K6_3, K6_4, K6_5, K6_6, K6_7, K6_8, K6_9, K6_10, K6_11, K6_12, K6_13, K6_14, K6_15, K6_16, K6_17, al28, z28, r0, r1, r2, r3, m1, m2, l1, l2, l3, Ut.cells, h3]
      rfl
    · exact (f0.trans ((Fr.alloc _ _ _).mono (by simp [Hp.alloc]))).trans (Fr.set _ _ _ (Nat.le_refl _))
  · have hr : u.rest = u.load := by simp [Ut.rest, h3]
    obtain rfl : u.load.length = R := by rw [← hR, hr]
    have hs3 : Sl H n g (off + 3) u.load := by
      have := hs.sub 3 u.load.length (by omega)
      rw [show (u.octets.drop 3).take u.load.length = u.load by simp [Ut.octets, hr]] at this
      exact this
    have f1 : Fr H.next H ((H.alloc z28 28).alloc [.s (.int .u8 u.back), .s (.bool u.bb), .s (.int .u8 u.fore), .s (.bool u.fb), .s (.int .u8 0), .s (.int .u8 0), .s (.slice none 0 0)] 28) := f0.trans ((Fr.alloc _ _ _).mono (by simp [Hp.alloc]))
    have c1 := clone (cap := cap - 3) (ex := ex) (hs3.fr f1 hn) (Nat.lt_of_lt_of_le hn f1.1) (by intro e; rw [e] at h5; simp at h5) (by omega)
    have s3 := fun G => sl_from G n g off (u.load.length + 3) cap ex (i := 3) (by omega) (by omega)
    have e3 : u.load.length + 3 - (3 : Int).toNat = u.load.length := by simp
    rw [e3] at s3
    simp only [Hp.next_alloc, Int.reduceToNat] at c1 s3
    have f2 := Fr.alloc (((H.alloc z28 28).alloc [.s (.int .u8 u.back), .s (.bool u.bb), .s (.int .u8 u.fore), .s (.bool u.fb), .s (.int .u8 0), .s (.int .u8 0), .s (.slice none 0 0)] 28)) [] 5
    have f3 := Fr.alloc ((((H.alloc z28 28).alloc [.s (.int .u8 u.back), .s (.bool u.bb), .s (.int .u8 u.fore), .s (.bool u.fb), .s (.int .u8 0), .s (.int .u8 0), .s (.slice none 0 0)] 28)).alloc [] 5) (bs u.load) 5
    have ow := Own.of_alloc ((((H.alloc z28 28).alloc [.s (.int .u8 u.back), .s (.bool u.bb), .s (.int .u8 u.fore), .s (.bool u.fb), .s (.int .u8 0), .s (.int .u8 0), .s (.slice none 0 0)] 28)).alloc [] 5) u.load
    refine ⟨.sl (H.next + 3) 0 0 u.load.length u.load.length true 1, (((((H.alloc z28 28).alloc [.s (.int .u8 u.back), .s (.bool u.bb), .s (.int .u8 u.fore), .s (.bool u.fb), .s (.int .u8 0), .s (.int .u8 0), .s (.slice none 0 0)] 28).alloc [] 5).alloc (bs u.load) 5).set (H.next + 1) ⟨u.cells (.sl (H.next + 3) 0 0 u.load.length u.load.length true 1), 0, true, 28, true⟩).set H.next ⟨u.cells (.sl (H.next + 3) 0 0 u.load.length u.load.length true 1), 0, true, 28, true⟩, ?_, .inr ⟨H.next + 3, rfl, by omega, by simp [Hp.alloc, Hp.set], ?_⟩, ?_⟩
    · simp only [z28] at c1
      rw [cg6]; simp only [Tryd.f6, Option.getD_some]
      simp (maxSteps := 5000000) (disch := first | assumption | omega | (refine id ?_; with_unfolding_all rfl) | (simp only [Hp.next_alloc, Hp.next_set, List.length_cons, List.length_nil]; omega)) only [↓g_seq, ↓g_skip, ↓g_ret, ↓g_exit, ↓g_label, ↓g_block, ↓g_cond, ↓g_region, ctx_P, ↓nb_norm, nb_norm, ↓nb_ret, nb_ret, ↓nb_exit, nb_exit, bx_norm, bx_ret, bx_exit, beq_self_eq_true, ↓cb_t, cb_t, ↓cb_f, cb_f, ↓gb_t, gb_t, ↓gb_f, gb_f, ↓ob_some, ob_some, ↓hb_some, hb_some, ↓vb_some, vb_some, ↓xb_some, xb_some, ↓rb_some, rb_some, ↓fb_fn, fb_fn, ↓fin_norm, fin_norm, ↓fin_ret, fin_ret, ↓fin1_one, fin1_one, ↓fin1_nil, fin1_nil, ↓fin1_two, fin1_two, resl_nil, resl_tmp, resl_cell, vload_ptr, gdl_zero, gdl_succ, wv_bool, wv_tup, wd_some, ↓r_nil, ↓r_guard, ↓r_move, ↓r_assign, ↓r_bin, ↓r_un, ↓r_conv, ↓r_load, ↓r_store, ↓r_alloc, ↓r_box, ↓r_pick, ↓r_build, ↓r_buildSlice, ↓r_nilCheck, ↓r_nilCheck0, ↓r_makeFunc, ↓r_makeSlice, ↓r_slice, ↓r_fieldAddr, ↓r_field, ↓r_indexAddr, ↓r_index, ↓r_extract, extract_tup, ↓r_builtin, ↓r_call, put_some, put_none, ev_tmp, ev_const, ev_func, kill_t, kill_f, kill_nil, getD_zero, getD_succ, vpick_b, vstore_ptr, vnil_ptr, vnil_fn, evp_mk, constOp, undefV, l_map, l_map0, l_set0, l_set, l_get0, l_get, List.append_nil, l_app0, List.nil_append, l_app, l_rep, l_rep0, o_bind, Option.bind_some, Option.bind_none, o_map, o_mapn, c_t, c_f, if_true, if_false, reduceCtorEq, Bool.false_eq_true, Bool.or_true, Bool.true_or, Bool.or_false, Bool.false_or, Bool.not_true, Bool.not_false, ↓fo_cons, fo_cons, fo_nil, eq_self, decide_true, decide_false, Int.reduceEq, Int.reduceNe, Int.reduceLT, Int.reduceLE, Int.reduceNeg, Int.reduceToNat, Nat.reduceAdd, Nat.reduceMul, Nat.reduceEqDiff, Nat.reduceBEq, Int.toNat_natCast, Nat.zero_add, Nat.add_zero, Nat.mul_one, vb_add, vb_sub, vb_mul, vb_quo, vb_rem, vb_and, vb_or, vb_xor, vb_shl, vb_shr, vb_eql, vb_neq, vb_lss, vb_leq, vb_gtr, vb_geq, sb_some, ld1_mk, st1_mk, stA_all, ldA_all, blk_alloc_at, blk_alloc_other, blk_set_same, blk_set_other, Hp.next_alloc, Hp.next_set, set_set, alloc_put_at, newVar_agg, newVar_int, ld3, ld4, ld5, ld22, ld26, ld30, ld81, ld23, ld37, ld28, ld25, ld58, ld82, ld72, st3, st4, st5, st22, st26, st30, st81, st23, st37, st28, st25, st58, st82, st72, fa28_0, fa28_1, fa28_2, fa28_3, fa28_4, fa28_5, fa28_6, fa25_0, fa25_1, fa25_2, fa25_3, fa25_4, fa25_5, fa58_0, fa58_1, fa58_2, fa58_3, fa58_4, fa58_5, fa58_6, ix23, ln23, ln23n, cp23, cp23n, ix37, ln37, ln37n, cp37, cp37n, ix82, ix72, cv81_5, cv5_81, cv5_3, cv3_5, cv22_3, cv22_5, cv5_22, cv3_22, na1, ns1, na2, ns2, na3, ns3, na4, ns4, na5, ns5, na6, ns6, na7, ns7, na8, ns8, na10, ns10, na15, ns15, na16, ns16, na62, ns62, na63, ns63, na64, ns64, na127, ns127, na128, ns128, na255, ns255, na256, ns256, naa, nss, nmm, tm2, td2, tm3, td3, tm4, td4, tm5, td5, tm6, td6, tm8, td8, tm10, td10, tm16, td16, tm32, td32, tm128, td128, tm256, td256, tm272, td272, tmn, tdn, w64, w8, w16, w32, wu64, decide_eq_true, decide_eq_false, List.length_cons, List.length_nil, List.length_append, Nat.le_refl, Nat.lt_irrefl, Nat.add_sub_cancel, g_open, dr_nil, dr_cons, db_some, gw_none, gw_some, as_move, as_assign, as_bin, as_un, as_conv, as_load, as_store, as_alloc, as_box, as_pick, as_build, as_buildSlice, as_nilCheck, as_makeFunc, as_makeSlice, as_slice, as_fieldAddr, as_field, as_indexAddr, as_index, as_extract, as_builtin, as_call, sr_some, same_load, same_bin, same_conv, same_slice, ck1_some, ck0_some, ckall_nil, ckall_cons, heapAt_hAt, hAt_some, hAt_none, beq_int, beq_bool, beq_ptr, beq_sl, beq_slnil, Bool.and_true, Bool.true_and, decide_true, List.append_assoc, ↓o6_4, ↓p6_4, ↓o6_16, ↓p6_16, K6_0, K6_1, K6_2, K6_3, K6_4, K6_5, K6_6, K6_7, K6_8, K6_9, K6_10, K6_11, K6_12, K6_13, K6_14, K6_15, K6_16, K6_17, al28, z28, r0, r1, r2, m1, m2, l1, l2, l3, Ut.cells, h3, h4, c1, s3, clip]
      rfl
    · unfold Own
      rw [Hp.get_set_other _ _ _ _ (by omega), Hp.get_set_other _ _ _ _ (by omega)]
      exact ow
    · exact ((f1.trans ((f2.trans (f3.mono (by simp [Hp.alloc]))).mono (by simp [Hp.alloc]; omega))).trans (Fr.set _ _ _ (by omega))).trans (Fr.set _ _ _ (Nat.le_refl _))
end Go.Proofs.YtnicmcdnpeimoaaDoor
