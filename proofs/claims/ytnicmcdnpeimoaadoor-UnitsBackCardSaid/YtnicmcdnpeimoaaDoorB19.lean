/-
  The octets of a unit by the chapter.
-/
import Derived.Test.YtnicmcdnpeimoaaDoorB18
set_option linter.unusedVariables false
set_option linter.unusedSimpArgs false
set_option maxRecDepth 100000
set_option maxHeartbeats 4000000
namespace Go.Proofs.YtnicmcdnpeimoaaDoor
open Go.Am
attribute [local congr] fo_first sb_first ob_first hb_first vb_first xb_first cb_first nb_first gb_first fb_first rb_first db_first run_first go_first codeL_first

/-- append of octets to a slice without room behind it, whatever is appended. -/
theorem app_any {H : Hp} {n g : Nat} {l l2 : List Nat} {ex : Bool} {cap : Nat} (ho : Own H n g l []) (hn : n < H.next) (hex : ex = true → cap = l.length) {x : V} (hx : By H x l2) (hl : l.length + l2.length < 2 ^ 29) :
    ∃ n' g' cap' ex' H', vbuiltin Tryd.prog H .append #[23, 23] [.sl n g 0 l.length cap ex 1, x] = some (.sl n' g' 0 (l ++ l2).length cap' ex' 1, H') ∧ Own H' n' g' (l ++ l2) [] ∧ n' < H'.next ∧ (n' = n ∨ H.next ≤ n') ∧ (ex' = true → cap' = (l ++ l2).length) ∧ Fp (fun k => k = n) H H' := by
  have hf := hx.flen
  have hc := hx.first
  have hni := hx.noint
  cases ex with
  | false =>
    obtain ⟨g', H', a1, a2, a3, a4⟩ := app_mv ho hf hc hni (by omega) rfl rfl
    have : vbuiltin Tryd.prog H .append #[23, 23] [.sl n g 0 l.length cap false 1, x] = vbuiltin Tryd.prog H .append #[23, 23] [.sl n g 0 l.length 0 false 1, x] := by
      rw [app_known H n g 0 _ cap false x l2 hf hc hni, app_known H n g 0 _ 0 false x l2 hf hc hni]
      simp only [Bool.false_eq_true, if_false]
    rw [this]
    exact ⟨n, g', 0, false, H', a1, a2, by omega, .inl rfl, by simp, by omega, fun k hk hd => a4 k hd⟩
  | true =>
    obtain rfl := hex rfl
    by_cases h0 : l2 = []
    · subst h0
      rw [app_known H n g 0 _ _ true x [] hf hc hni, ho.blk]
      simp only [Option.bind_some, if_true, List.length_nil, Nat.add_zero, Nat.le_refl, if_true]
      have hs : stores H n g (0 + l.length) (bs []) = some (H.set n ⟨bs l ++ [], g, true, 5, true⟩) := by
        unfold stores
        rw [ho.blk]
        simp only [Option.bind_some]
        rw [if_pos (by refine ⟨?_, ?_, ?_⟩ <;> simp [bs])]
        rfl
      rw [hs]
      simp only [Option.bind_some, List.append_nil]
      exact ⟨n, g, l.length, true, _, rfl, by unfold Own; rw [Hp.get_set_same, List.append_nil], by show n < H.next; exact hn, .inl rfl, fun _ => rfl, Fp.set _ _ _ rfl⟩
    · have := app_ex ho.sl hf hc hni (by omega) h0 rfl (len2 := (l ++ l2).length) rfl
      exact ⟨H.next, 0, 0, false, _, this, Own.of_alloc H _, by simp [Hp.alloc], .inr (Nat.le_refl _), by simp, Fp.alloc _ _ _ _⟩

theorem add8 (x : Nat) (h : x < 128) : IntKind.u8.wrap (((x : Nat) : Int) + 128) = ((x + 128 : Nat) : Int) := by
  rw [w8 (by omega) (by omega)]; omega

theorem chapter {H : Hp} {u : Ut} (hu : u.Ok) {v : V} (hv : By H v u.load) : ∃ v' H', callL ctx 14 [.agg (u.cells v)] H = some (v', H') ∧ By H' v' u.octets ∧ Fr H.next H H' := by
  have hb := hu.back
  have hf := hu.fore
  have hrest := Ut.rest_len hu
  have hkk := hu.kind
  have hst : u.status < 256 := by omega
  have hO : u.octets = [cond u.bb (u.back + 128) u.back, cond u.fb (u.fore + 128) u.fore, min u.rest.length 63] ++ u.rest := rfl
  have b0 := bs3_23 (H.alloc (u.cells v) 28) u.back u.fore 0
  have hb1 := fun G => bs1_23 G u.status
  have mn := min63
  generalize hA : cond u.bb (u.back + 128) u.back = A at hO
  generalize hB : cond u.fb (u.fore + 128) u.fore = B at hO
  have ow := Own.of_alloc (H.alloc (u.cells v) 28) [A, B, 0]
  have f1 : Fp (fun _ => False) H ((H.alloc (u.cells v) 28).alloc (bs [A, B, 0]) 5) := (Fp.alloc _ _ _ _).trans (Fp.alloc _ _ _ _)
  have hc1 : ((H.alloc (u.cells v) 28).alloc (bs [A, B, 0]) 5).get H.next = some ⟨u.cells v, 0, true, 28, true⟩ := by
    rw [Hp.get_alloc_other _ _ _ _ (by simp [Hp.alloc]), Hp.get_alloc_same]
  have nx : ((H.alloc (u.cells v) 28).alloc (bs [A, B, 0]) 5).next = H.next + 2 := rfl
  simp only [Hp.next_alloc] at ow b0
  by_cases h1 : u.kind = 1
  · have hload : u.load = [] := by
      rcases hkk with ⟨h, _, _⟩ | ⟨_, _, h⟩ | ⟨h, _⟩
      · omega
      · exact h
      · omega
    have hr : u.rest = [u.status] := by simp [Ut.rest, h1]
    rw [hr] at hO
    rw [hload] at hv
    have f1' : Fr H.next H ((H.alloc (u.cells v) 28).alloc (bs [A, B, 0]) 5) := ⟨f1.1, fun x hx => by rw [Hp.get_alloc_other _ _ _ _ (by simp [Hp.alloc]; omega), Hp.get_alloc_other _ _ _ _ (by omega)]⟩
    have f2 := Fr.alloc ((H.alloc (u.cells v) 28).alloc (bs [A, B, 0]) 5) (bs [u.status]) 5
    have os := Own.of_alloc ((H.alloc (u.cells v) 28).alloc (bs [A, B, 0]) 5) [u.status]
    obtain ⟨n', g', cap', ex', H2, a1, a2, a3, a4, a5, a6⟩ := app_any (ex := true) (cap := 3) (ow.fr f2 (by omega)) (by simp [Hp.alloc]) (fun _ => rfl) (x := .sl (H.next + 1 + 1) 0 0 1 1 true 1) (l2 := [u.status]) (.inr ⟨_, 0, 0, 1, true, rfl, by simp [Hp.alloc], os.sl⟩) (by simp)
    have h12 : H.next + 3 ≤ H2.next := by have := a6.1; simp only [Hp.next_alloc] at this; omega
    have hn1 : n' ≠ H.next := by
      rcases a4 with h | h
      · omega
      · simp only [Hp.next_alloc] at h; omega
    have f12 : Fr H.next H H2 := ⟨by omega, fun x hx => (a6.2 x (by simp only [Hp.next_alloc]; omega) (by omega)).trans ((f2.2 x (by omega)).trans (f1'.2 x hx))⟩
    obtain ⟨n2, g2, cap2, ex2, H3, b1, b2, b3, b4, b5, b6⟩ := app_any a2 a3 a5 (hv.fr f12 (Nat.le_refl _)) (by simp)
    have hbc : blk H2 H.next 0 = some ⟨u.cells v, 0, true, 28, true⟩ := by
      refine blk_of ?_ rfl
      rw [a6.2 _ (by simp only [Hp.next_alloc]; omega) (by omega), f2.2 _ (by omega), hc1]
    have hbk : blk H3 n2 g2 = some ⟨bs ([A, B, 0] ++ [u.status] ++ []), g2, true, 5, true⟩ := by have := b2.blk; rw [List.append_nil] at this; exact this
    have hset : (bs ([A, B, 0] ++ [u.status] ++ [])).set 2 (.s (.int .u8 1)) = bs [A, B, 1, u.status] := rfl
    have hLb : 2 < (bs ([A, B, 0] ++ [u.status] ++ [])).length := by simp [bs]
    have hL1 : ([A, B, 0] ++ [u.status]).length = 4 := rfl
    have hL2 : ([A, B, 0] ++ [u.status] ++ []).length = 4 := rfl
    have hl3 : [A, B, 0].length = 3 := rfl
    have hn2 : H.next + 1 ≤ n2 := by
      rcases b4 with h | h
      · rcases a4 with h' | h'
        · omega
        · simp only [Hp.next_alloc] at h'; omega
      · omega
    rw [hL1, hl3] at a1
    rw [hL1, hL2] at b1
    refine ⟨.sl n2 g2 0 4 cap2 ex2 1, H3.set n2 ⟨bs [A, B, 1, u.status], g2, true, 5, true⟩, ?_, .inr ⟨n2, g2, 0, cap2, ex2, ?_, b3, ?_⟩, ?_⟩
    · have mn1 : ∀ G, vbuiltin Tryd.prog G .min #[3, 3] [.s (.int .i64 63), .s (.int .i64 ((4 - 3 : Nat) : Int))] = some (.s (.int .i64 1), G) := fun G => mn #[3, 3] G 1
      generalize hX : bs ([A, B, 0] ++ [u.status] ++ []) = X at *
      obtain ⟨back, bb, fore, fb, kind, status, load⟩ := u
      dsimp only [Ut.cells] at *
      subst h1
      have z0 : ((0 : Nat) : Int) = 0 := rfl
      simp only [bs, List.map_cons, List.map_nil, Hp.next_alloc, z0] at a1
      cases bb <;> cases fb <;> (simp only [cond_true, cond_false] at hA hB; subst hA; subst hB; rw [cg14]; simp only [Tryd.f14, Option.getD_some]; simp (maxSteps := 5000000) (disch := first | assumption | omega | (refine id ?_; with_unfolding_all rfl) | (simp only [Hp.next_alloc, Hp.next_set, List.length_cons, List.length_nil]; omega)) only [↓g_seq, ↓g_skip, ↓g_ret, ↓g_exit, ↓g_label, ↓g_block, ↓g_cond, ↓g_region, ctx_P, ↓nb_norm, nb_norm, ↓nb_ret, nb_ret, ↓nb_exit, nb_exit, bx_norm, bx_ret, bx_exit, beq_self_eq_true, ↓cb_t, cb_t, ↓cb_f, cb_f, ↓gb_t, gb_t, ↓gb_f, gb_f, ↓ob_some, ob_some, ↓hb_some, hb_some, ↓vb_some, vb_some, ↓xb_some, xb_some, ↓rb_some, rb_some, ↓fb_fn, fb_fn, ↓fin_norm, fin_norm, ↓fin_ret, fin_ret, ↓fin1_one, fin1_one, ↓fin1_nil, fin1_nil, ↓fin1_two, fin1_two, resl_nil, resl_tmp, resl_cell, vload_ptr, gdl_zero, gdl_succ, wv_bool, wv_tup, wd_some, ↓r_nil, ↓r_guard, ↓r_move, ↓r_assign, ↓r_bin, ↓r_un, ↓r_conv, ↓r_load, ↓r_store, ↓r_alloc, ↓r_box, ↓r_pick, ↓r_build, ↓r_buildSlice, ↓r_nilCheck, ↓r_nilCheck0, ↓r_makeFunc, ↓r_makeSlice, ↓r_slice, ↓r_fieldAddr, ↓r_field, ↓r_indexAddr, ↓r_index, ↓r_extract, extract_tup, ↓r_builtin, ↓r_call, put_some, put_none, ev_tmp, ev_const, ev_func, kill_t, kill_f, kill_nil, getD_zero, getD_succ, vpick_b, vstore_ptr, vnil_ptr, vnil_fn, evp_mk, constOp, undefV, l_map, l_map0, l_set0, l_set, l_get0, l_get, List.append_nil, l_app0, List.nil_append, l_app, l_rep, l_rep0, o_bind, Option.bind_some, Option.bind_none, o_map, o_mapn, c_t, c_f, if_true, if_false, reduceCtorEq, Bool.false_eq_true, Bool.or_true, Bool.true_or, Bool.or_false, Bool.false_or, Bool.not_true, Bool.not_false, ↓fo_cons, fo_cons, fo_nil, eq_self, decide_true, decide_false, Int.reduceEq, Int.reduceNe, Int.reduceLT, Int.reduceLE, Int.reduceNeg, Int.reduceToNat, Nat.reduceAdd, Nat.reduceMul, Nat.reduceEqDiff, Nat.reduceBEq, Int.toNat_natCast, Nat.zero_add, Nat.add_zero, Nat.mul_one, vb_add, vb_sub, vb_mul, vb_quo, vb_rem, vb_and, vb_or, vb_xor, vb_shl, vb_shr, vb_eql, vb_neq, vb_lss, vb_leq, vb_gtr, vb_geq, sb_some, ld1_mk, st1_mk, stA_all, ldA_all, blk_alloc_at, blk_alloc_other, blk_set_same, blk_set_other, Hp.next_alloc, Hp.next_set, set_set, alloc_put_at, newVar_agg, newVar_int, ld3, ld4, ld5, ld22, ld26, ld30, ld81, ld23, ld37, ld28, ld25, ld58, ld82, ld72, st3, st4, st5, st22, st26, st30, st81, st23, st37, st28, st25, st58, st82, st72, fa28_0, fa28_1, fa28_2, fa28_3, fa28_4, fa28_5, fa28_6, fa25_0, fa25_1, fa25_2, fa25_3, fa25_4, fa25_5, fa58_0, fa58_1, fa58_2, fa58_3, fa58_4, fa58_5, fa58_6, ix23, ln23, ln23n, cp23, cp23n, ix37, ln37, ln37n, cp37, cp37n, ix82, ix72, cv81_5, cv5_81, cv5_3, cv3_5, cv22_3, cv22_5, cv5_22, cv3_22, na1, ns1, na2, ns2, na3, ns3, na4, ns4, na5, ns5, na6, ns6, na7, ns7, na8, ns8, na10, ns10, na15, ns15, na16, ns16, na62, ns62, na63, ns63, na64, ns64, na127, ns127, na128, ns128, na255, ns255, na256, ns256, naa, nss, nmm, tm2, td2, tm3, td3, tm4, td4, tm5, td5, tm6, td6, tm8, td8, tm10, td10, tm16, td16, tm32, td32, tm128, td128, tm256, td256, tm272, td272, tmn, tdn, w64, w8, w16, w32, wu64, decide_eq_true, decide_eq_false, List.length_cons, List.length_nil, List.length_append, Nat.le_refl, Nat.lt_irrefl, Nat.add_sub_cancel, K14_0, K14_1, K14_2, K14_3, K14_4, K14_5, K14_6, K14_7, K14_8, K14_9, K14_10, b0, hb1, a1, b1, hbc, hbk, hLb, hset, mn1])
    · rw [hO]; simp
    · have : Own (H3.set n2 ⟨bs [A, B, 1, u.status], g2, true, 5, true⟩) n2 g2 u.octets [] := by
        unfold Own; rw [Hp.get_set_same, List.append_nil, hO]; rfl
      exact this.sl
    · refine ⟨by show H.next ≤ H3.next; have := b6.1; omega, fun x hx => ?_⟩
      rw [Hp.get_set_other _ _ _ _ (by omega), b6.2 x (by omega) (by
        rcases a4 with h | h
        · omega
        · simp only [Hp.next_alloc] at h; omega)]
      exact f12.2 x hx
  · have hr : u.rest = u.load := by simp [Ut.rest, h1]
    rw [hr] at hO hrest
    have f1' : Fr H.next H ((H.alloc (u.cells v) 28).alloc (bs [A, B, 0]) 5) := ⟨f1.1, fun x hx => by rw [Hp.get_alloc_other _ _ _ _ (by simp [Hp.alloc]; omega), Hp.get_alloc_other _ _ _ _ (by omega)]⟩
    obtain ⟨n', g', cap', ex', H2, a1, a2, a3, a4, a5, a6⟩ := app_any (ex := true) (cap := 3) ow (by omega) (fun _ => rfl) (hv.fr f1' (Nat.le_refl _)) (by simp; omega)
    have hbk : blk H2 n' g' = some ⟨bs ([A, B, 0] ++ u.load), g', true, 5, true⟩ := by have := a2.blk; rw [List.append_nil] at this; exact this
    have hset : (bs ([A, B, 0] ++ u.load)).set 2 (.s (.int .u8 (min u.load.length 63 : Nat))) = bs ([A, B, min u.load.length 63] ++ u.load) := rfl
    have hL : ([A, B, 0] ++ u.load).length = u.load.length + 3 := by simp
    have hLb : 2 < (bs ([A, B, 0] ++ u.load)).length := by rw [bs_length, hL]; omega
    have hw : IntKind.u8.wrap ((min u.load.length 63 : Nat) : Int) = ((min u.load.length 63 : Nat) : Int) := wu8n _ (by omega)
    have hl3 : [A, B, 0].length = 3 := rfl
    rw [hL, hl3] at a1
    refine ⟨.sl n' g' 0 (u.load.length + 3) cap' ex' 1, H2.set n' ⟨bs ([A, B, min u.load.length 63] ++ u.load), g', true, 5, true⟩, ?_, .inr ⟨n', g', 0, cap', ex', ?_, a3, ?_⟩, ?_⟩
    · have mn1 := fun G => mn #[3, 3] G u.load.length
      generalize hX : bs ([A, B, 0] ++ u.load) = X at *
      generalize hY : bs ([A, B, min u.load.length 63] ++ u.load) = Y at *
      obtain ⟨back, bb, fore, fb, kind, status, load⟩ := u
      dsimp only [Ut.cells] at *
      have z0 : ((0 : Nat) : Int) = 0 := rfl
      simp only [bs, List.map_cons, List.map_nil, Hp.next_alloc, z0] at a1
      generalize hM : min load.length 63 = M at *
      cases bb <;> cases fb <;> (simp only [cond_true, cond_false] at hA hB; subst hA; subst hB; rw [cg14]; simp only [Tryd.f14, Option.getD_some]; simp (maxSteps := 5000000) (disch := first | assumption | omega | (refine id ?_; with_unfolding_all rfl) | (simp only [Hp.next_alloc, Hp.next_set, List.length_cons, List.length_nil]; omega)) only [↓g_seq, ↓g_skip, ↓g_ret, ↓g_exit, ↓g_label, ↓g_block, ↓g_cond, ↓g_region, ctx_P, ↓nb_norm, nb_norm, ↓nb_ret, nb_ret, ↓nb_exit, nb_exit, bx_norm, bx_ret, bx_exit, beq_self_eq_true, ↓cb_t, cb_t, ↓cb_f, cb_f, ↓gb_t, gb_t, ↓gb_f, gb_f, ↓ob_some, ob_some, ↓hb_some, hb_some, ↓vb_some, vb_some, ↓xb_some, xb_some, ↓rb_some, rb_some, ↓fb_fn, fb_fn, ↓fin_norm, fin_norm, ↓fin_ret, fin_ret, ↓fin1_one, fin1_one, ↓fin1_nil, fin1_nil, ↓fin1_two, fin1_two, resl_nil, resl_tmp, resl_cell, vload_ptr, gdl_zero, gdl_succ, wv_bool, wv_tup, wd_some, ↓r_nil, ↓r_guard, ↓r_move, ↓r_assign, ↓r_bin, ↓r_un, ↓r_conv, ↓r_load, ↓r_store, ↓r_alloc, ↓r_box, ↓r_pick, ↓r_build, ↓r_buildSlice, ↓r_nilCheck, ↓r_nilCheck0, ↓r_makeFunc, ↓r_makeSlice, ↓r_slice, ↓r_fieldAddr, ↓r_field, ↓r_indexAddr, ↓r_index, ↓r_extract, extract_tup, ↓r_builtin, ↓r_call, put_some, put_none, ev_tmp, ev_const, ev_func, kill_t, kill_f, kill_nil, getD_zero, getD_succ, vpick_b, vstore_ptr, vnil_ptr, vnil_fn, evp_mk, constOp, undefV, l_map, l_map0, l_set0, l_set, l_get0, l_get, List.append_nil, l_app0, List.nil_append, l_app, l_rep, l_rep0, o_bind, Option.bind_some, Option.bind_none, o_map, o_mapn, c_t, c_f, if_true, if_false, reduceCtorEq, Bool.false_eq_true, Bool.or_true, Bool.true_or, Bool.or_false, Bool.false_or, Bool.not_true, Bool.not_false, ↓fo_cons, fo_cons, fo_nil, eq_self, decide_true, decide_false, Int.reduceEq, Int.reduceNe, Int.reduceLT, Int.reduceLE, Int.reduceNeg, Int.reduceToNat, Nat.reduceAdd, Nat.reduceMul, Nat.reduceEqDiff, Nat.reduceBEq, Int.toNat_natCast, Nat.zero_add, Nat.add_zero, Nat.mul_one, vb_add, vb_sub, vb_mul, vb_quo, vb_rem, vb_and, vb_or, vb_xor, vb_shl, vb_shr, vb_eql, vb_neq, vb_lss, vb_leq, vb_gtr, vb_geq, sb_some, ld1_mk, st1_mk, stA_all, ldA_all, blk_alloc_at, blk_alloc_other, blk_set_same, blk_set_other, Hp.next_alloc, Hp.next_set, set_set, alloc_put_at, newVar_agg, newVar_int, ld3, ld4, ld5, ld22, ld26, ld30, ld81, ld23, ld37, ld28, ld25, ld58, ld82, ld72, st3, st4, st5, st22, st26, st30, st81, st23, st37, st28, st25, st58, st82, st72, fa28_0, fa28_1, fa28_2, fa28_3, fa28_4, fa28_5, fa28_6, fa25_0, fa25_1, fa25_2, fa25_3, fa25_4, fa25_5, fa58_0, fa58_1, fa58_2, fa58_3, fa58_4, fa58_5, fa58_6, ix23, ln23, ln23n, cp23, cp23n, ix37, ln37, ln37n, cp37, cp37n, ix82, ix72, cv81_5, cv5_81, cv5_3, cv3_5, cv22_3, cv22_5, cv5_22, cv3_22, na1, ns1, na2, ns2, na3, ns3, na4, ns4, na5, ns5, na6, ns6, na7, ns7, na8, ns8, na10, ns10, na15, ns15, na16, ns16, na62, ns62, na63, ns63, na64, ns64, na127, ns127, na128, ns128, na255, ns255, na256, ns256, naa, nss, nmm, tm2, td2, tm3, td3, tm4, td4, tm5, td5, tm6, td6, tm8, td8, tm10, td10, tm16, td16, tm32, td32, tm128, td128, tm256, td256, tm272, td272, tmn, tdn, w64, w8, w16, w32, wu64, decide_eq_true, decide_eq_false, List.length_cons, List.length_nil, List.length_append, Nat.le_refl, Nat.lt_irrefl, Nat.add_sub_cancel, K14_0, K14_1, K14_2, K14_3, K14_4, K14_5, K14_6, K14_7, K14_8, K14_9, K14_10, b0, a1, hbk, hLb, hset, hw, mn1])
    · rw [hO]; simp
    · have : Own (H2.set n' ⟨bs ([A, B, min u.load.length 63] ++ u.load), g', true, 5, true⟩) n' g' u.octets [] := by
        unfold Own; rw [Hp.get_set_same, List.append_nil, hO]
      exact this.sl
    · refine ⟨by show H.next ≤ H2.next; have := a6.1; omega, fun x hx => ?_⟩
      rw [Hp.get_set_other _ _ _ _ (by omega), a6.2 x (by omega) (by omega)]
      exact f1'.2 x hx
end Go.Proofs.YtnicmcdnpeimoaaDoor
