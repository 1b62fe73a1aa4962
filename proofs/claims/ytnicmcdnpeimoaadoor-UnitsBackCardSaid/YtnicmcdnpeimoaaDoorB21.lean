/-
  UnitsBack: the walk.
-/
import Derived.Test.YtnicmcdnpeimoaaDoorB20
set_option linter.unusedVariables false
set_option linter.unusedSimpArgs false
set_option maxRecDepth 100000
set_option maxHeartbeats 8000000
namespace Go.Proofs.YtnicmcdnpeimoaaDoor
open Go.Am
attribute [local congr] fo_first sb_first ob_first hb_first vb_first xb_first cb_first nb_first gb_first fb_first rb_first db_first run_first go_first codeL_first

theorem inc_loop (a b c : V) (U n : Nat) (hU : U ≠ n) (m : Nat) (hm : m < 2 ^ 30) (cells : List V) (hc6 : cells[6]? = some (.sl n 0 0 m m true 1)) : ∀ (d k : Nat) (l : List Nat) (G : Hp), k + d = m → l.length = m → Own G n 0 l [] → blk G U 0 = some ⟨cells, 0, true, 28, true⟩ →
    ∃ G', codeL ctx 3 (nth (fbody 3) [true, true, true, true, true, true, true, true, true, true, false, true, false]) [.junk, a, .junk, b, c, .junk, .ptr U 0 0, .junk, .junk, .junk, .junk, .junk, .junk, .junk, .junk, .junk, .s (.int .i64 k), .junk, .junk, .junk, .junk, .junk, .junk, .junk, .junk, .junk, .junk, .junk, .junk, .junk, .junk, .junk, .junk, .junk, .junk, .junk, .junk, .junk, .junk, .junk, .junk, .junk, .junk, .junk, .junk, .junk, .junk, .junk, .junk, .junk, .junk, .junk, .junk, .junk, .junk, .junk, .junk, .junk, .junk, .junk, .junk, .junk, .junk, .junk, .junk, .junk, .junk, .junk, .junk, .junk, .junk, .junk, .junk, .junk, .junk, .junk, .junk, .junk, .junk, .junk, .junk, .junk, .junk, .junk, .junk, .junk, .junk, .junk, .junk, .junk, .junk, .junk, .junk, .junk, .junk, .junk, .junk, .junk, .junk, .junk, .junk, .junk, .junk, .junk, .junk, .junk, .junk, .junk, .junk, .junk, .junk, .junk, .junk, .junk, .junk, .junk, .junk, .junk, .junk, .junk, .junk, .junk, .junk, .junk, .junk, .junk, .junk] G =
      some (.exit 0, [.junk, a, .junk, b, c, .junk, .ptr U 0 0, .junk, .junk, .junk, .junk, .junk, .junk, .junk, .junk, .junk, .s (.int .i64 m), .junk, .junk, .junk, .junk, .junk, .junk, .junk, .junk, .junk, .junk, .junk, .junk, .junk, .junk, .junk, .junk, .junk, .junk, .junk, .junk, .junk, .junk, .junk, .junk, .junk, .junk, .junk, .junk, .junk, .junk, .junk, .junk, .junk, .junk, .junk, .junk, .junk, .junk, .junk, .junk, .junk, .junk, .junk, .junk, .junk, .junk, .junk, .junk, .junk, .junk, .junk, .junk, .junk, .junk, .junk, .junk, .junk, .junk, .junk, .junk, .junk, .junk, .junk, .junk, .junk, .junk, .junk, .junk, .junk, .junk, .junk, .junk, .junk, .junk, .junk, .junk, .junk, .junk, .junk, .junk, .junk, .junk, .junk, .junk, .junk, .junk, .s (.bool false), .junk, .junk, .junk, .junk, .junk, .junk, .junk, .junk, .junk, .junk, .junk, .junk, .junk, .junk, .junk, .junk, .junk, .junk, .junk, .junk, .junk, .junk, .junk], G') ∧ G'.next = G.next ∧ ∀ x, x ≠ n → G'.get x = G.get x := by
  intro d
  induction d with
  | zero =>
    intro k l G hk hl ho hb
    obtain rfl : k = m := by omega
    refine ⟨G, ?_, rfl, fun _ _ => rfl⟩
    simp only [fb3, Tryd.f3, Option.getD_some, nth, cond_true, cond_false]
    rw [loop_go]
    simp (maxSteps := 5000000) (disch := first | assumption | omega | (refine id ?_; with_unfolding_all rfl) | (simp only [Hp.next_alloc, Hp.next_set, List.length_cons, List.length_nil]; omega)) only [↓g_seq, ↓g_skip, ↓g_ret, ↓g_exit, ↓g_label, ↓g_block, ↓g_cond, ↓g_region, ctx_P, ↓nb_norm, nb_norm, ↓nb_ret, nb_ret, ↓nb_exit, nb_exit, bx_norm, bx_ret, bx_exit, beq_self_eq_true, ↓cb_t, cb_t, ↓cb_f, cb_f, ↓gb_t, gb_t, ↓gb_f, gb_f, ↓ob_some, ob_some, ↓hb_some, hb_some, ↓vb_some, vb_some, ↓xb_some, xb_some, ↓rb_some, rb_some, ↓fb_fn, fb_fn, ↓fin_norm, fin_norm, ↓fin_ret, fin_ret, ↓fin1_one, fin1_one, ↓fin1_nil, fin1_nil, ↓fin1_two, fin1_two, resl_nil, resl_tmp, resl_cell, vload_ptr, gdl_zero, gdl_succ, wv_bool, wv_tup, wd_some, ↓r_nil, ↓r_guard, ↓r_move, ↓r_assign, ↓r_bin, ↓r_un, ↓r_conv, ↓r_load, ↓r_store, ↓r_alloc, ↓r_box, ↓r_pick, ↓r_build, ↓r_buildSlice, ↓r_nilCheck, ↓r_nilCheck0, ↓r_makeFunc, ↓r_makeSlice, ↓r_slice, ↓r_fieldAddr, ↓r_field, ↓r_indexAddr, ↓r_index, ↓r_extract, extract_tup, ↓r_builtin, ↓r_call, put_some, put_none, ev_tmp, ev_const, ev_func, kill_t, kill_f, kill_nil, getD_zero, getD_succ, vpick_b, vstore_ptr, vnil_ptr, vnil_fn, evp_mk, constOp, undefV, l_map, l_map0, l_set0, l_set, l_get0, l_get, List.append_nil, l_app0, List.nil_append, l_app, l_rep, l_rep0, o_bind, Option.bind_some, Option.bind_none, o_map, o_mapn, c_t, c_f, if_true, if_false, reduceCtorEq, Bool.false_eq_true, Bool.or_true, Bool.true_or, Bool.or_false, Bool.false_or, Bool.not_true, Bool.not_false, ↓fo_cons, fo_cons, fo_nil, eq_self, decide_true, decide_false, Int.reduceEq, Int.reduceNe, Int.reduceLT, Int.reduceLE, Int.reduceNeg, Int.reduceToNat, Nat.reduceAdd, Nat.reduceMul, Nat.reduceEqDiff, Nat.reduceBEq, Int.toNat_natCast, Nat.zero_add, Nat.add_zero, Nat.mul_one, vb_add, vb_sub, vb_mul, vb_quo, vb_rem, vb_and, vb_or, vb_xor, vb_shl, vb_shr, vb_eql, vb_neq, vb_lss, vb_leq, vb_gtr, vb_geq, sb_some, ld1_mk, st1_mk, stA_all, ldA_all, blk_alloc_at, blk_alloc_other, blk_set_same, blk_set_other, Hp.next_alloc, Hp.next_set, set_set, alloc_put_at, newVar_agg, newVar_int, ld3, ld4, ld5, ld22, ld26, ld30, ld81, ld23, ld37, ld28, ld25, ld58, ld82, ld72, st3, st4, st5, st22, st26, st30, st81, st23, st37, st28, st25, st58, st82, st72, fa28_0, fa28_1, fa28_2, fa28_3, fa28_4, fa28_5, fa28_6, fa25_0, fa25_1, fa25_2, fa25_3, fa25_4, fa25_5, fa58_0, fa58_1, fa58_2, fa58_3, fa58_4, fa58_5, fa58_6, ix23, ln23, ln23n, cp23, cp23n, ix37, ln37, ln37n, cp37, cp37n, ix82, ix72, cv81_5, cv5_81, cv5_3, cv3_5, cv22_3, cv22_5, cv5_22, cv3_22, na1, ns1, na2, ns2, na3, ns3, na4, ns4, na5, ns5, na6, ns6, na7, ns7, na8, ns8, na10, ns10, na15, ns15, na16, ns16, na62, ns62, na63, ns63, na64, ns64, na127, ns127, na128, ns128, na255, ns255, na256, ns256, naa, nss, nmm, tm2, td2, tm3, td3, tm4, td4, tm5, td5, tm6, td6, tm8, td8, tm10, td10, tm16, td16, tm32, td32, tm128, td128, tm256, td256, tm272, td272, tmn, tdn, w64, w8, w16, w32, wu64, decide_eq_true, decide_eq_false, List.length_cons, List.length_nil, List.length_append, Nat.le_refl, Nat.lt_irrefl, Nat.add_sub_cancel, K3_0, K3_1, K3_2, K3_3, K3_4, K3_5, K3_6, K3_7, K3_8, K3_9, K3_10, K3_11, K3_12, K3_13, K3_14, K3_15, K3_16, hb, hc6]
  | succ d ih =>
    intro k l G hk hl ho hb
    have hkl : k < l.length := by omega
    have ho1 : Own (G.set n ⟨bs (l.set k ((l[k] + 1) % 256)), 0, true, 5, true⟩) n 0 (l.set k ((l[k] + 1) % 256)) [] := by
      unfold Own; rw [Hp.get_set_same, List.append_nil]
    obtain ⟨G', i1, i2, i3⟩ := ih (k + 1) (l.set k ((l[k] + 1) % 256)) (G.set n ⟨bs (l.set k ((l[k] + 1) % 256)), 0, true, 5, true⟩) (by omega) (by simp; omega) ho1 (by rw [blk_set_other _ _ _ _ _ hU]; exact hb)
    refine ⟨G', ?_, i2, fun x hx => (i3 x hx).trans (Hp.get_set_other _ _ _ _ hx)⟩
    have hbn : blk G n 0 = some ⟨bs l, 0, true, 5, true⟩ := by have := ho.blk; rw [List.append_nil] at this; exact this
    have hget := bs_get hkl
    have hw := wu8m (l[k] + 1)
    have hset : (bs l).set k (.s (.int .u8 ((((l[k] + 1) % 256 : Nat)) : Int))) = bs (l.set k ((l[k] + 1) % 256)) := by
      simp [bs, List.map_set]
    have hlt : k < (bs l).length := by rw [bs_length]; exact hkl
    generalize l[k] = q at *
    simp only [fb3, Tryd.f3, Option.getD_some, nth, cond_true, cond_false] at i1 ⊢
    rw [loop_go]
    simp (maxSteps := 5000000) (disch := first | assumption | omega | (refine id ?_; with_unfolding_all rfl) | (simp only [Hp.next_alloc, Hp.next_set, List.length_cons, List.length_nil]; omega)) only [↓g_seq, ↓g_skip, ↓g_ret, ↓g_exit, ↓g_label, ↓g_block, ↓g_cond, ↓g_region, ctx_P, ↓nb_norm, nb_norm, ↓nb_ret, nb_ret, ↓nb_exit, nb_exit, bx_norm, bx_ret, bx_exit, beq_self_eq_true, ↓cb_t, cb_t, ↓cb_f, cb_f, ↓gb_t, gb_t, ↓gb_f, gb_f, ↓ob_some, ob_some, ↓hb_some, hb_some, ↓vb_some, vb_some, ↓xb_some, xb_some, ↓rb_some, rb_some, ↓fb_fn, fb_fn, ↓fin_norm, fin_norm, ↓fin_ret, fin_ret, ↓fin1_one, fin1_one, ↓fin1_nil, fin1_nil, ↓fin1_two, fin1_two, resl_nil, resl_tmp, resl_cell, vload_ptr, gdl_zero, gdl_succ, wv_bool, wv_tup, wd_some, ↓r_nil, ↓r_guard, ↓r_move, ↓r_assign, ↓r_bin, ↓r_un, ↓r_conv, ↓r_load, ↓r_store, ↓r_alloc, ↓r_box, ↓r_pick, ↓r_build, ↓r_buildSlice, ↓r_nilCheck, ↓r_nilCheck0, ↓r_makeFunc, ↓r_makeSlice, ↓r_slice, ↓r_fieldAddr, ↓r_field, ↓r_indexAddr, ↓r_index, ↓r_extract, extract_tup, ↓r_builtin, ↓r_call, put_some, put_none, ev_tmp, ev_const, ev_func, kill_t, kill_f, kill_nil, getD_zero, getD_succ, vpick_b, vstore_ptr, vnil_ptr, vnil_fn, evp_mk, constOp, undefV, l_map, l_map0, l_set0, l_set, l_get0, l_get, List.append_nil, l_app0, List.nil_append, l_app, l_rep, l_rep0, o_bind, Option.bind_some, Option.bind_none, o_map, o_mapn, c_t, c_f, if_true, if_false, reduceCtorEq, Bool.false_eq_true, Bool.or_true, Bool.true_or, Bool.or_false, Bool.false_or, Bool.not_true, Bool.not_false, ↓fo_cons, fo_cons, fo_nil, eq_self, decide_true, decide_false, Int.reduceEq, Int.reduceNe, Int.reduceLT, Int.reduceLE, Int.reduceNeg, Int.reduceToNat, Nat.reduceAdd, Nat.reduceMul, Nat.reduceEqDiff, Nat.reduceBEq, Int.toNat_natCast, Nat.zero_add, Nat.add_zero, Nat.mul_one, vb_add, vb_sub, vb_mul, vb_quo, vb_rem, vb_and, vb_or, vb_xor, vb_shl, vb_shr, vb_eql, vb_neq, vb_lss, vb_leq, vb_gtr, vb_geq, sb_some, ld1_mk, st1_mk, stA_all, ldA_all, blk_alloc_at, blk_alloc_other, blk_set_same, blk_set_other, Hp.next_alloc, Hp.next_set, set_set, alloc_put_at, newVar_agg, newVar_int, ld3, ld4, ld5, ld22, ld26, ld30, ld81, ld23, ld37, ld28, ld25, ld58, ld82, ld72, st3, st4, st5, st22, st26, st30, st81, st23, st37, st28, st25, st58, st82, st72, fa28_0, fa28_1, fa28_2, fa28_3, fa28_4, fa28_5, fa28_6, fa25_0, fa25_1, fa25_2, fa25_3, fa25_4, fa25_5, fa58_0, fa58_1, fa58_2, fa58_3, fa58_4, fa58_5, fa58_6, ix23, ln23, ln23n, cp23, cp23n, ix37, ln37, ln37n, cp37, cp37n, ix82, ix72, cv81_5, cv5_81, cv5_3, cv3_5, cv22_3, cv22_5, cv5_22, cv3_22, na1, ns1, na2, ns2, na3, ns3, na4, ns4, na5, ns5, na6, ns6, na7, ns7, na8, ns8, na10, ns10, na15, ns15, na16, ns16, na62, ns62, na63, ns63, na64, ns64, na127, ns127, na128, ns128, na255, ns255, na256, ns256, naa, nss, nmm, tm2, td2, tm3, td3, tm4, td4, tm5, td5, tm6, td6, tm8, td8, tm10, td10, tm16, td16, tm32, td32, tm128, td128, tm256, td256, tm272, td272, tmn, tdn, w64, w8, w16, w32, wu64, decide_eq_true, decide_eq_false, List.length_cons, List.length_nil, List.length_append, Nat.le_refl, Nat.lt_irrefl, Nat.add_sub_cancel, K3_0, K3_1, K3_2, K3_3, K3_4, K3_5, K3_6, K3_7, K3_8, K3_9, K3_10, K3_11, K3_12, K3_13, K3_14, K3_15, K3_16, hb, hc6, hbn, hget, hw, hset, hlt, ↓i1]

theorem Fresh.by' {H H' : Hp} {v : V} {l : List Nat} (h : Fresh H H' v l) : By H' v l := by
  rcases h with ⟨rfl, rfl⟩ | ⟨n, rfl, h1, h2, h3⟩
  · exact .inl ⟨rfl, rfl⟩
  · exact .inr ⟨n, 0, 0, _, true, rfl, h2, h3.sl⟩
theorem Fresh.capN {H H' : Hp} {v : V} {l : List Nat} (h : Fresh H H' v l) (G : Hp) : vbuiltin Tryd.prog G .cap #[23] [v] = some (.s (.int .i64 l.length), G) := by
  rcases h with ⟨rfl, rfl⟩ | ⟨n, rfl, h1, h2, h3⟩
  · exact cp23n ..
  · exact cp23 ..
theorem By.beq {H : Hp} {v : V} {l : List Nat} (h : By H v l) : V.beq v v = true := by
  rcases h with ⟨rfl, rfl⟩ | ⟨n, g, off, cap, ex, rfl, _⟩
  · exact beq_slnil 0 0
  · exact beq_sl ..
theorem Ut.all_one (u : Ut) {v : V} (h : v.one = true) : (u.cells v).all V.one = true := by
  simp only [Ut.cells, List.all_cons, List.all_nil, h]
  rfl
theorem Ut.beq (u : Ut) {v : V} (h : V.beq v v = true) : V.beq (.agg (u.cells v)) (.agg (u.cells v)) = true := by
  simp [Ut.cells, V.beq, V.beqs, seq, h]
theorem Xu.beq (x : Xu) {v : V} (h : V.beq v v = true) : V.beq (.agg (x.cells v)) (.agg (x.cells v)) = true := by
  simp [Xu.cells, V.beq, V.beqs, seq, h]
theorem Ut.six (u : Ut) (v : V) : (u.cells v)[6]? = some v := rfl
theorem stuff_bits : ∀ (l : List Nat) (o : Nat), (∀ b ∈ l, b < 2) → ∀ b ∈ stuff o l, b < 2 := by
  intro l
  induction l with
  | nil => intro o h b hb; simp [stuff] at hb
  | cons a r ih =>
    intro o h b hb
    have hr := fun x hx => h x (List.mem_cons_of_mem a hx)
    simp only [stuff, List.mem_cons] at hb
    rcases hb with rfl | hb
    · exact h _ (by simp)
    · split at hb
      · exact ih 0 hr b hb
      · split at hb
        · simp only [List.mem_cons] at hb
          rcases hb with rfl | hb
          · omega
          · exact ih 0 hr b hb
        · exact ih _ hr b hb
theorem frm_bits (l : List Nat) : ∀ b ∈ frm l, b < 2 := by
  intro b hb
  have hf : ∀ b ∈ flagL, b < 2 := by decide
  simp only [frm, List.mem_append] at hb
  rcases hb with hb | hb | hb
  · exact hf b hb
  · exact stuff_bits _ 0 (ofBits_bits l) b hb
  · exact hf b hb
theorem unitsBack {H : Hp} {x : Xu} (hx : x.Ok) {v : V} (hv : By0 H v x.load) (hG : Sl H 0 0 0 flagL) (hG0 : 0 < H.next) (horc : ∀ H', Fr H.next H H' → callL ctx 15 [] H' = some (.s (.bool true), H')) :
    ∃ H', callL ctx 3 [.agg (x.cells v)] H = some (.s (.bool true), H') := by
  have hu := Xu.of_ok hx
  have fH1 := Fr.alloc H (x.cells v) 25
  obtain ⟨v1, H2, a4, r1, f2⟩ := ofUnit hx (hv.fr fH1 (Nat.le_refl _))
  generalize hxu : x.of = u at *
  have b1 := r1.by'
  have f3 := Fr.alloc H2 (u.cells v1) 28
  obtain ⟨n4, H4, a5, q1, q2, s4, f4⟩ := encode hu (b1.fr f3 (Nat.le_refl _))
  obtain ⟨v5, H5, a6, r5, f5⟩ := decode hu s4 q2 (cap := u.octets.length) (ex := true)
  have f6 := Fr.alloc H5 (u.cells v5) 28
  have hlen := Ut.octets_len u
  have hrest := Ut.rest_len hu
  have hby := Ut.octets_bytes hu
  have n24 : H2.next + 1 ≤ H4.next := by have := f4.1; simp only [Hp.next_alloc] at this; omega
  have f46 : Fr H4.next H4 (H5.alloc (u.cells v5) 28) := f5.trans (f6.mono f5.1)
  obtain ⟨n7, H7, a8, q3, q4, s7, f7⟩ := add (cap := u.octets.length) (ex := true) (s4.fr f46 q2) (Nat.lt_of_lt_of_le q2 f46.1) hby (by omega)
  have hws : (withSum u.octets).length = u.octets.length + 2 := by simp [withSum]
  have hwb : ∀ b ∈ withSum u.octets, b < 256 := by
    intro b hb
    simp only [withSum, List.mem_append, List.mem_cons, List.not_mem_nil, or_false] at hb
    rcases hb with hb | rfl | rfl
    · exact hby b hb
    · omega
    · have := sumOf_lt u.octets; omega
  have n5 : H5.next + 1 ≤ H7.next := by have := f7.1; simp only [Hp.next_alloc] at this; omega
  have f12 : Fr H.next H H2 := fH1.trans (f2.mono fH1.1)
  have fall : Fr H.next H H7 := ((f12.trans (f3.mono f12.1)).trans (f4.mono (by simp only [Hp.next_alloc]; have := f12.1; omega))).trans ((f46.trans (f7.mono f46.1)).mono (by have := f12.1; omega))
  obtain ⟨n8, g8, H8, a7, o8, q5, q6, f8⟩ := frame (cap := (withSum u.octets).length) (ex := true) s7 q4 hwb (by omega) (by omega) (hG.fr fall hG0) (by have := fall.1; omega)
  generalize hws' : withSum u.octets = ws at *
  -- the scanner
  have hfl := frm_len ws
  have hfb : ∀ b ∈ frm ws, b < 2 := frm_bits ws
  obtain ⟨rf1, rf2⟩ := read_frame true 0 [] (by simp) hwb (by omega) (by omega)
  have a9 := newScanner H8
  have sc := newScan H8
  have f9 := Fr.alloc H8 (scCells true 0 0 0 (.s (.slice none 0 0)) (.s (.slice none 0 0))) 58
  have o9 := o8.fr f9 q6
  obtain ⟨k', kv', v10, H10, a10, sc', fp10, knew, hv10⟩ := feed sc (l := frm ws) (by omega) hfb rf2 rfl o9.sl (by simp only [Hp.next_alloc]; omega) (by
    intro hd
    rcases hd with hd | hd | hd
    · omega
    · cases hd
    · cases hd) (cap := (frm ws).length) (ex := true)
  rw [rf1] at hv10
  simp only [List.nil_append] at hv10
  obtain ⟨F, gF, vs, rF, rfl, hF1, hF2, hF3, hcs⟩ := hv10.resolve_left (by simp)
  obtain ⟨vc, rfl⟩ : ∃ vc, vs = [vc] := by
    have := hcs.len
    match vs, this with
    | [vc], _ => exact ⟨vc, rfl⟩
  obtain ⟨⟨nc, rfl, hnc1, hnc2, hnc3⟩, _⟩ := hcs
  have f810 : Fr H8.next H8 H10 := ⟨by have := fp10.1; simp only [Hp.next_alloc] at this; omega, fun y hy => (fp10.2 y (by simp only [Hp.next_alloc]; omega) (by
    intro hd
    rcases hd with hd | hd | hd
    · omega
    · cases hd
    · cases hd)).trans (f9.2 y hy)⟩
  have f410 : Fr H4.next H4 H10 := ((f46.trans (f7.mono f46.1)).trans (f8.mono (by have := f46.1; have := f7.1; omega))).trans (f810.mono (by have := f46.1; have := f7.1; have := f8.1; omega))
  have f710 : Fr H7.next H7 H10 := f8.trans (f810.mono f8.1)
  have f310 : Fr (H2.alloc (u.cells v1) 28).next (H2.alloc (u.cells v1) 28) H10 := f4.trans (f410.mono f4.1)
  have f210 : Fr H2.next H2 H10 := f3.trans (f310.mono f3.1)
  have b10_3 : H10.get H2.next = some ⟨u.cells v1, 0, true, 28, true⟩ := by rw [f310.2 _ (by simp [Hp.next_alloc]), Hp.get_alloc_same]
  have b10_6 : H10.get H5.next = some ⟨u.cells v5, 0, true, 28, true⟩ := by
    rw [f710.2 _ (by omega), f7.2 _ (by simp [Hp.next_alloc]), Hp.get_alloc_same]
  have hv1 : By H10 v1 u.load := b1.fr f210 (Nat.le_refl _)
  have hv5 : By H10 v5 u.load := r5.by'.fr (f6.trans (f7.trans (f710.mono f7.1) |>.mono f6.1)) (Nat.le_refl _)
  have hld : u.load.length ≤ 273 := by
    have := hu.kind
    rcases this with ⟨_, _, h⟩ | ⟨_, _, h⟩ | ⟨_, _, _, h⟩
    · rw [h]; simp
    · rw [h]; simp
    · exact h
  obtain ⟨H11, a11, f11⟩ : ∃ H11, callL ctx 11 [.agg (u.cells v1), .agg (u.cells v5)] H10 = some (.s (.bool true), H11) ∧ Fr H10.next H10 H11 :=
    ⟨_, sameUnit hv1 hv5 (by omega), (Fr.alloc _ _ _).trans ((Fr.alloc _ _ _).mono (by simp [Hp.alloc]))⟩
  have b11F : blk H11 F gF = some ⟨.sl nc 0 0 ws.length ws.length true 1 :: rF, gF, true, 23, true⟩ := by
    refine blk_of ?_ rfl
    rw [f11.2 F hF2, hF3]; rfl
  have o11 : Own H11 nc 0 ws [] := hnc3.fr f11 hnc1
  obtain ⟨n12, H12, a12, q7, q8, s12, f1112⟩ := checked (l := u.octets) (cap := ws.length) (ex := true) (by rw [hws']; exact o11.sl) (Nat.lt_of_lt_of_le hnc1 f11.1) hby (by intro e; rw [e] at hlen; simp at hlen) (by omega)
  rw [hws'] at a12
  obtain ⟨v13, H13, a6', r13, f1213⟩ := decode hu s12 q8 (cap := u.octets.length) (ex := true)
  have f1013 : Fr H10.next H10 H13 := f11.trans ((f1112.trans (f1213.mono f1112.1)).mono f11.1)
  have b11_3 : blk H11 H2.next 0 = some ⟨u.cells v1, 0, true, 28, true⟩ := blk_of (by rw [f11.2 _ (by have := f310.1; simp only [Hp.next_alloc] at this; omega)]; exact b10_3) rfl
  have b13_3 : blk H13 H2.next 0 = some ⟨u.cells v1, 0, true, 28, true⟩ := blk_of (by rw [f1013.2 _ (by have := f310.1; simp only [Hp.next_alloc] at this; omega)]; exact b10_3) rfl
  have f1314 := Fr.alloc H13 (u.cells v13) 28
  have f1014 : Fr H10.next H10 (H13.alloc (u.cells v13) 28) := f1013.trans (f1314.mono f1013.1)
  obtain ⟨H15, a11', f1415⟩ : ∃ H15, callL ctx 11 [.agg (u.cells v1), .agg (u.cells v13)] (H13.alloc (u.cells v13) 28) = some (.s (.bool true), H15) ∧ Fr (H13.alloc (u.cells v13) 28).next (H13.alloc (u.cells v13) 28) H15 :=
    ⟨_, sameUnit (hv1.fr f1014 (Nat.le_refl _)) (r13.by'.fr f1314 (Nat.le_refl _)) (by omega), (Fr.alloc _ _ _).trans ((Fr.alloc _ _ _).mono (by simp [Hp.alloc]))⟩
  have f1015 : Fr H10.next H10 H15 := f1014.trans (f1415.mono f1014.1)
  have f415 : Fr H4.next H4 H15 := f410.trans (f1015.mono f410.1)
  -- the octets of the load are changed
  have hloop : ∃ H16, codeL ctx 3 (nth (fbody 3) [true, true, true, true, true, true, true, true, true, true, false, true, false]) [.junk, .ptr H.next 0 0, .junk, .ptr H2.next 0 0, .sl n4 0 0 u.octets.length u.octets.length true 1, .junk, .ptr H5.next 0 0, .junk, .junk, .junk, .junk, .junk, .junk, .junk, .junk, .junk, .s (.int .i64 0), .junk, .junk, .junk, .junk, .junk, .junk, .junk, .junk, .junk, .junk, .junk, .junk, .junk, .junk, .junk, .junk, .junk, .junk, .junk, .junk, .junk, .junk, .junk, .junk, .junk, .junk, .junk, .junk, .junk, .junk, .junk, .junk, .junk, .junk, .junk, .junk, .junk, .junk, .junk, .junk, .junk, .junk, .junk, .junk, .junk, .junk, .junk, .junk, .junk, .junk, .junk, .junk, .junk, .junk, .junk, .junk, .junk, .junk, .junk, .junk, .junk, .junk, .junk, .junk, .junk, .junk, .junk, .junk, .junk, .junk, .junk, .junk, .junk, .junk, .junk, .junk, .junk, .junk, .junk, .junk, .junk, .junk, .junk, .junk, .junk, .junk, .junk, .junk, .junk, .junk, .junk, .junk, .junk, .junk, .junk, .junk, .junk, .junk, .junk, .junk, .junk, .junk, .junk, .junk, .junk, .junk, .junk, .junk, .junk, .junk] H15 =
      some (.exit 0, [.junk, .ptr H.next 0 0, .junk, .ptr H2.next 0 0, .sl n4 0 0 u.octets.length u.octets.length true 1, .junk, .ptr H5.next 0 0, .junk, .junk, .junk, .junk, .junk, .junk, .junk, .junk, .junk, .s (.int .i64 u.load.length), .junk, .junk, .junk, .junk, .junk, .junk, .junk, .junk, .junk, .junk, .junk, .junk, .junk, .junk, .junk, .junk, .junk, .junk, .junk, .junk, .junk, .junk, .junk, .junk, .junk, .junk, .junk, .junk, .junk, .junk, .junk, .junk, .junk, .junk, .junk, .junk, .junk, .junk, .junk, .junk, .junk, .junk, .junk, .junk, .junk, .junk, .junk, .junk, .junk, .junk, .junk, .junk, .junk, .junk, .junk, .junk, .junk, .junk, .junk, .junk, .junk, .junk, .junk, .junk, .junk, .junk, .junk, .junk, .junk, .junk, .junk, .junk, .junk, .junk, .junk, .junk, .junk, .junk, .junk, .junk, .junk, .junk, .junk, .junk, .junk, .junk, .s (.bool false), .junk, .junk, .junk, .junk, .junk, .junk, .junk, .junk, .junk, .junk, .junk, .junk, .junk, .junk, .junk, .junk, .junk, .junk, .junk, .junk, .junk, .junk, .junk], H16) ∧ Fr H4.next H15 H16 := by
    have b15_6 : blk H15 H5.next 0 = some ⟨u.cells v5, 0, true, 28, true⟩ := blk_of (by rw [f1015.2 _ (by have := f710.1; omega)]; exact b10_6) rfl
    rcases r5 with ⟨rfl, h0⟩ | ⟨n5', rfl, g1, g2, g3⟩
    · refine ⟨H15, ?_, Fr.refl _ _⟩
      have hl := ln23n
      have h6 := Ut.six u (.s (.slice none 0 0))
      rw [h0]
      simp only [fb3, Tryd.f3, Option.getD_some, nth, cond_true, cond_false, List.length_nil]
      rw [loop_go]
      simp (maxSteps := 5000000) (disch := first | assumption | omega | (refine id ?_; with_unfolding_all rfl) | (simp only [Hp.next_alloc, Hp.next_set, List.length_cons, List.length_nil]; omega)) only [↓g_seq, ↓g_skip, ↓g_ret, ↓g_exit, ↓g_label, ↓g_block, ↓g_cond, ↓g_region, ctx_P, ↓nb_norm, nb_norm, ↓nb_ret, nb_ret, ↓nb_exit, nb_exit, bx_norm, bx_ret, bx_exit, beq_self_eq_true, ↓cb_t, cb_t, ↓cb_f, cb_f, ↓gb_t, gb_t, ↓gb_f, gb_f, ↓ob_some, ob_some, ↓hb_some, hb_some, ↓vb_some, vb_some, ↓xb_some, xb_some, ↓rb_some, rb_some, ↓fb_fn, fb_fn, ↓fin_norm, fin_norm, ↓fin_ret, fin_ret, ↓fin1_one, fin1_one, ↓fin1_nil, fin1_nil, ↓fin1_two, fin1_two, resl_nil, resl_tmp, resl_cell, vload_ptr, gdl_zero, gdl_succ, wv_bool, wv_tup, wd_some, ↓r_nil, ↓r_guard, ↓r_move, ↓r_assign, ↓r_bin, ↓r_un, ↓r_conv, ↓r_load, ↓r_store, ↓r_alloc, ↓r_box, ↓r_pick, ↓r_build, ↓r_buildSlice, ↓r_nilCheck, ↓r_nilCheck0, ↓r_makeFunc, ↓r_makeSlice, ↓r_slice, ↓r_fieldAddr, ↓r_field, ↓r_indexAddr, ↓r_index, ↓r_extract, extract_tup, ↓r_builtin, ↓r_call, put_some, put_none, ev_tmp, ev_const, ev_func, kill_t, kill_f, kill_nil, getD_zero, getD_succ, vpick_b, vstore_ptr, vnil_ptr, vnil_fn, evp_mk, constOp, undefV, l_map, l_map0, l_set0, l_set, l_get0, l_get, List.append_nil, l_app0, List.nil_append, l_app, l_rep, l_rep0, o_bind, Option.bind_some, Option.bind_none, o_map, o_mapn, c_t, c_f, if_true, if_false, reduceCtorEq, Bool.false_eq_true, Bool.or_true, Bool.true_or, Bool.or_false, Bool.false_or, Bool.not_true, Bool.not_false, ↓fo_cons, fo_cons, fo_nil, eq_self, decide_true, decide_false, Int.reduceEq, Int.reduceNe, Int.reduceLT, Int.reduceLE, Int.reduceNeg, Int.reduceToNat, Nat.reduceAdd, Nat.reduceMul, Nat.reduceEqDiff, Nat.reduceBEq, Int.toNat_natCast, Nat.zero_add, Nat.add_zero, Nat.mul_one, vb_add, vb_sub, vb_mul, vb_quo, vb_rem, vb_and, vb_or, vb_xor, vb_shl, vb_shr, vb_eql, vb_neq, vb_lss, vb_leq, vb_gtr, vb_geq, sb_some, ld1_mk, st1_mk, stA_all, ldA_all, blk_alloc_at, blk_alloc_other, blk_set_same, blk_set_other, Hp.next_alloc, Hp.next_set, set_set, alloc_put_at, newVar_agg, newVar_int, ld3, ld4, ld5, ld22, ld26, ld30, ld81, ld23, ld37, ld28, ld25, ld58, ld82, ld72, st3, st4, st5, st22, st26, st30, st81, st23, st37, st28, st25, st58, st82, st72, fa28_0, fa28_1, fa28_2, fa28_3, fa28_4, fa28_5, fa28_6, fa25_0, fa25_1, fa25_2, fa25_3, fa25_4, fa25_5, fa58_0, fa58_1, fa58_2, fa58_3, fa58_4, fa58_5, fa58_6, ix23, ln23, ln23n, cp23, cp23n, ix37, ln37, ln37n, cp37, cp37n, ix82, ix72, cv81_5, cv5_81, cv5_3, cv3_5, cv22_3, cv22_5, cv5_22, cv3_22, na1, ns1, na2, ns2, na3, ns3, na4, ns4, na5, ns5, na6, ns6, na7, ns7, na8, ns8, na10, ns10, na15, ns15, na16, ns16, na62, ns62, na63, ns63, na64, ns64, na127, ns127, na128, ns128, na255, ns255, na256, ns256, naa, nss, nmm, tm2, td2, tm3, td3, tm4, td4, tm5, td5, tm6, td6, tm8, td8, tm10, td10, tm16, td16, tm32, td32, tm128, td128, tm256, td256, tm272, td272, tmn, tdn, w64, w8, w16, w32, wu64, decide_eq_true, decide_eq_false, List.length_cons, List.length_nil, List.length_append, Nat.le_refl, Nat.lt_irrefl, Nat.add_sub_cancel, K3_0, K3_1, K3_2, K3_3, K3_4, K3_5, K3_6, K3_7, K3_8, K3_9, K3_10, K3_11, K3_12, K3_13, K3_14, K3_15, K3_16, b15_6, h6]
      rfl
    · have o15 : Own H15 n5' 0 u.load [] := (g3.fr (f6.trans (f7.trans (f710.mono f7.1) |>.mono f6.1)) g2).fr f1015 (by have := f710.1; omega)
      obtain ⟨G', i1, i2, i3⟩ := inc_loop (.ptr H.next 0 0) (.ptr H2.next 0 0) (.sl n4 0 0 u.octets.length u.octets.length true 1) H5.next n5' (by omega) u.load.length (by omega) (u.cells (.sl n5' 0 0 u.load.length u.load.length true 1)) rfl u.load.length 0 u.load H15 (by omega) rfl o15 b15_6
      exact ⟨G', i1, by omega, fun y hy => i3 y (by omega)⟩
  obtain ⟨H16, al, f1516⟩ := hloop
  have f416 : Fr H4.next H4 H16 := f415.trans f1516
  have f316 : Fr (H2.alloc (u.cells v1) 28).next (H2.alloc (u.cells v1) 28) H16 := f4.trans (f416.mono f4.1)
  have b16_3 : H16.get H2.next = some ⟨u.cells v1, 0, true, 28, true⟩ := by rw [f316.2 _ (by simp [Hp.next_alloc]), Hp.get_alloc_same]
  obtain ⟨v17, H17, a14, hv17, f1617⟩ := chapter hu (b1.fr (f3.trans (f316.mono f3.1)) (Nat.le_refl _))
  have n416 := f416.1
  have f417 : Fr H4.next H4 H17 := f416.trans (f1617.mono n416)
  have a13 := bytesOk (s4.fr f417 q2) (Nat.lt_of_lt_of_le q2 f417.1) hv17 (by omega)
  have f317 : Fr (H2.alloc (u.cells v1) 28).next (H2.alloc (u.cells v1) 28) H17 := f4.trans (f417.mono f4.1)
  have b17_3 : H17.get H2.next = some ⟨u.cells v1, 0, true, 28, true⟩ := by rw [f317.2 _ (by simp [Hp.next_alloc]), Hp.get_alloc_same]
  have f217 : Fr H2.next H2 H17 := f3.trans (f317.mono f3.1)
  have f117 : Fr (H.alloc (x.cells v) 25).next (H.alloc (x.cells v) 25) H17 := f2.trans (f217.mono f2.1)
  have b17_1 : H17.get H.next = some ⟨x.cells v, 0, true, 25, true⟩ := by rw [f117.2 _ (by simp [Hp.next_alloc]), Hp.get_alloc_same]
  have f017 : Fr H.next H H17 := fH1.trans (f117.mono fH1.1)
  obtain ⟨v18, H18, a4', r18, f1718⟩ := ofUnit hx (hv.fr f017 (Nat.le_refl _))
  rw [hxu] at a4' r18
  have n217 := f317.1
  simp only [Hp.next_alloc] at n217
  have f318 : Fr (H2.alloc (u.cells v1) 28).next (H2.alloc (u.cells v1) 28) H18 := f317.trans (f1718.mono f317.1)
  have b18_3 : blk H18 H2.next 0 = some ⟨u.cells v1, 0, true, 28, true⟩ := blk_of (by rw [f318.2 _ (by simp [Hp.next_alloc]), Hp.get_alloc_same]) rfl
  obtain ⟨H19, a11'', f1819⟩ : ∃ H19, callL ctx 11 [.agg (u.cells v1), .agg (u.cells v18)] H18 = some (.s (.bool true), H19) ∧ Fr H18.next H18 H19 :=
    ⟨_, sameUnit (b1.fr (f3.trans (f318.mono f3.1)) (Nat.le_refl _)) r18.by' (by omega), (Fr.alloc _ _ _).trans ((Fr.alloc _ _ _).mono (by simp [Hp.alloc]))⟩
  have f019 : Fr H.next H H19 := (f017.trans (f1718.mono f017.1)).trans (f1819.mono (by have := f017.1; have := f1718.1; omega))
  have a15 := horc H19 f019
  refine ⟨H19, ?_⟩
  have c10_3 : blk H10 H2.next 0 = some ⟨u.cells v1, 0, true, 28, true⟩ := blk_of b10_3 rfl
  have c10_6 : blk H10 H5.next 0 = some ⟨u.cells v5, 0, true, 28, true⟩ := blk_of b10_6 rfl
  have c11_6 : blk H11 H5.next 0 = some ⟨u.cells v5, 0, true, 28, true⟩ := blk_of (by rw [f11.2 _ (by have := f710.1; omega)]; exact b10_6) rfl
  have c16_3 : blk H16 H2.next 0 = some ⟨u.cells v1, 0, true, 28, true⟩ := blk_of b16_3 rfl
  have c17_3 : blk H17 H2.next 0 = some ⟨u.cells v1, 0, true, 28, true⟩ := blk_of b17_3 rfl
  have c17_1 : blk H17 H.next 0 = some ⟨x.cells v, 0, true, 25, true⟩ := blk_of b17_1 rfl
  have o1 := u.all_one b1.one
  have o5' := u.all_one r5.by'.one
  have o13 := u.all_one r13.by'.one
  have e1 := u.beq b1.beq
  have e2 := x.beq hv.beq
  have x5 := Ut.six u v5
  have cp := r5.capN
  have ln := r5.by'.lenN
  have hne : H2.next ≠ H13.next := by have := f1013.1; have := f310.1; simp only [Hp.next_alloc] at this; omega
  have o3_16 := DO3_16; have p3_16 := DP3_16; simp only [fb3, Tryd.f3, Option.getD_some, opsOf, if_true, if_false, Nat.reduceEqDiff] at o3_16 p3_16
  clear fH1 f2 f3 f4 f5 f6 f46 f7 f12 fall f8 sc f9 o8 o9 sc' fp10 knew hv10 f810 f410 f710 f310 f210 f11 o11 f1112 f1213 f1013 f1314 f1014 f1415 f1015 f415 f1516 f416 f316 f1617 f417 f317 f217 f117 f017 f1718 f318 f1819 f019 horc hby hwb hfb rf1 rf2 b10_3 b10_6 b16_3 b17_3 b17_1 s4 s7 s12 hnc3 hF3 hG
  rw [cg3]; simp only [fb3, Tryd.f3, Option.getD_some, nth, cond_true, cond_false] at al ⊢
  simp (maxSteps := 5000000) (disch := first | assumption | omega | (refine id ?_; with_unfolding_all rfl) | (simp only [Hp.next_alloc, Hp.next_set, List.length_cons, List.length_nil]; omega)) only [↓g_seq, ↓g_skip, ↓g_ret, ↓g_exit, ↓g_label, ↓g_block, ↓g_cond, ↓g_region, ctx_P, ↓nb_norm, nb_norm, ↓nb_ret, nb_ret, ↓nb_exit, nb_exit, bx_norm, bx_ret, bx_exit, beq_self_eq_true, ↓cb_t, cb_t, ↓cb_f, cb_f, ↓gb_t, gb_t, ↓gb_f, gb_f, ↓ob_some, ob_some, ↓hb_some, hb_some, ↓vb_some, vb_some, ↓xb_some, xb_some, ↓rb_some, rb_some, ↓fb_fn, fb_fn, ↓fin_norm, fin_norm, ↓fin_ret, fin_ret, ↓fin1_one, fin1_one, ↓fin1_nil, fin1_nil, ↓fin1_two, fin1_two, resl_nil, resl_tmp, resl_cell, vload_ptr, gdl_zero, gdl_succ, wv_bool, wv_tup, wd_some, ↓r_nil, ↓r_guard, ↓r_move, ↓r_assign, ↓r_bin, ↓r_un, ↓r_conv, ↓r_load, ↓r_store, ↓r_alloc, ↓r_box, ↓r_pick, ↓r_build, ↓r_buildSlice, ↓r_nilCheck, ↓r_nilCheck0, ↓r_makeFunc, ↓r_makeSlice, ↓r_slice, ↓r_fieldAddr, ↓r_field, ↓r_indexAddr, ↓r_index, ↓r_extract, extract_tup, ↓r_builtin, ↓r_call, put_some, put_none, ev_tmp, ev_const, ev_func, kill_t, kill_f, kill_nil, getD_zero, getD_succ, vpick_b, vstore_ptr, vnil_ptr, vnil_fn, evp_mk, constOp, undefV, l_map, l_map0, l_set0, l_set, l_get0, l_get, List.append_nil, l_app0, List.nil_append, l_app, l_rep, l_rep0, o_bind, Option.bind_some, Option.bind_none, o_map, o_mapn, c_t, c_f, if_true, if_false, reduceCtorEq, Bool.false_eq_true, Bool.or_true, Bool.true_or, Bool.or_false, Bool.false_or, Bool.not_true, Bool.not_false, ↓fo_cons, fo_cons, fo_nil, eq_self, decide_true, decide_false, Int.reduceEq, Int.reduceNe, Int.reduceLT, Int.reduceLE, Int.reduceNeg, Int.reduceToNat, Nat.reduceAdd, Nat.reduceMul, Nat.reduceEqDiff, Nat.reduceBEq, Int.toNat_natCast, Nat.zero_add, Nat.add_zero, Nat.mul_one, vb_add, vb_sub, vb_mul, vb_quo, vb_rem, vb_and, vb_or, vb_xor, vb_shl, vb_shr, vb_eql, vb_neq, vb_lss, vb_leq, vb_gtr, vb_geq, sb_some, ld1_mk, st1_mk, stA_all, ldA_all, blk_alloc_at, blk_alloc_other, blk_set_same, blk_set_other, Hp.next_alloc, Hp.next_set, set_set, alloc_put_at, newVar_agg, newVar_int, ld3, ld4, ld5, ld22, ld26, ld30, ld81, ld23, ld37, ld28, ld25, ld58, ld82, ld72, st3, st4, st5, st22, st26, st30, st81, st23, st37, st28, st25, st58, st82, st72, fa28_0, fa28_1, fa28_2, fa28_3, fa28_4, fa28_5, fa28_6, fa25_0, fa25_1, fa25_2, fa25_3, fa25_4, fa25_5, fa58_0, fa58_1, fa58_2, fa58_3, fa58_4, fa58_5, fa58_6, ix23, ln23, ln23n, cp23, cp23n, ix37, ln37, ln37n, cp37, cp37n, ix82, ix72, cv81_5, cv5_81, cv5_3, cv3_5, cv22_3, cv22_5, cv5_22, cv3_22, na1, ns1, na2, ns2, na3, ns3, na4, ns4, na5, ns5, na6, ns6, na7, ns7, na8, ns8, na10, ns10, na15, ns15, na16, ns16, na62, ns62, na63, ns63, na64, ns64, na127, ns127, na128, ns128, na255, ns255, na256, ns256, naa, nss, nmm, tm2, td2, tm3, td3, tm4, td4, tm5, td5, tm6, td6, tm8, td8, tm10, td10, tm16, td16, tm32, td32, tm128, td128, tm256, td256, tm272, td272, tmn, tdn, w64, w8, w16, w32, wu64, decide_eq_true, decide_eq_false, List.length_cons, List.length_nil, List.length_append, Nat.le_refl, Nat.lt_irrefl, Nat.add_sub_cancel, g_open, dr_nil, dr_cons, db_some, gw_none, gw_some, as_move, as_assign, as_bin, as_un, as_conv, as_load, as_store, as_alloc, as_box, as_pick, as_build, as_buildSlice, as_nilCheck, as_makeFunc, as_makeSlice, as_slice, as_fieldAddr, as_field, as_indexAddr, as_index, as_extract, as_builtin, as_call, sr_some, same_load, same_bin, same_conv, same_slice, ck1_some, ck0_some, ckall_nil, ckall_cons, heapAt_hAt, hAt_some, hAt_none, beq_int, beq_bool, beq_ptr, beq_sl, beq_slnil, Bool.and_true, Bool.true_and, decide_true, List.append_assoc, ↓o3_16, ↓p3_16, K3_0, K3_1, K3_2, K3_3, K3_4, K3_5, K3_6, K3_7, K3_8, K3_9, K3_10, K3_11, K3_12, K3_13, K3_14, K3_15, K3_16, al28, a4, a5, a6, a8, a7, a9, a10, a11, a12, a6', a11', ↓g_loop, ↓al, a14, a13, a4', a11'', a15, c10_3, c10_6, c11_6, b11_3, b11F, b13_3, c16_3, c17_3, c17_1, b18_3, e1, e2, x5, cp, ln, vun_not]
end Go.Proofs.YtnicmcdnpeimoaaDoor
