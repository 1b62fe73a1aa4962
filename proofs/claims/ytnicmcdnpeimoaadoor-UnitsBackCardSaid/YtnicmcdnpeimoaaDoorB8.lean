/-
  The check sequence is added and taken off.
-/
import Derived.Test.YtnicmcdnpeimoaaDoorB7
set_option linter.unusedVariables false
set_option linter.unusedSimpArgs false
set_option maxRecDepth 100000
set_option maxHeartbeats 4000000
namespace Go.Proofs.YtnicmcdnpeimoaaDoor
open Go.Am
attribute [local congr] fo_first sb_first ob_first hb_first vb_first xb_first cb_first nb_first gb_first fb_first rb_first db_first run_first go_first codeL_first

theorem info23 : ∃ i, Tryd.prog.info? 23 = some i ∧ i.zero = some (.slice none 0 0) ∧ i.size = 1 := ⟨_, rfl, by kernel_rfl, by kernel_rfl⟩
theorem zc23 (n : Nat) : zeroCells [Value.slice none 0 0] n = List.replicate n (.s (.slice none 0 0)) := by
  unfold zeroCells
  apply List.ext_getElem
  · simp
  · intro j h1 h2; simp [Nat.mod_one]
theorem bs1_37 (H : Hp) (v : V) (hv : v.cells = some [v]) : vbuildSlice Tryd.prog H 37 1 [(0, v)] = some (.sl H.next 0 0 1 1 true 1, H.alloc [v] 23) := by
  obtain ⟨i, h1, h2, h3⟩ := info23
  have hz : (Value.slice none 0 0).cells = #[Value.slice none 0 0] := rfl
  simp [vbuildSlice, Tryd.underlying37, h1, h2, h3, hz, fill, zc23, hv, splice]
theorem bs2_37 (H : Hp) (v w : V) (hv : v.cells = some [v]) (hw : w.cells = some [w]) : vbuildSlice Tryd.prog H 37 2 [(0, v), (1, w)] = some (.sl H.next 0 0 2 2 true 1, H.alloc [v, w] 23) := by
  obtain ⟨i, h1, h2, h3⟩ := info23
  have hz : (Value.slice none 0 0).cells = #[Value.slice none 0 0] := rfl
  simp [vbuildSlice, Tryd.underlying37, h1, h2, h3, hz, fill, zc23, hv, hw, splice]

def sumOf (l : List Nat) : Nat := 65535 - crc 65535 l
def withSum (l : List Nat) : List Nat := l ++ [sumOf l % 256, sumOf l / 256]
theorem sumOf_lt (l : List Nat) : sumOf l < 65536 := by unfold sumOf; omega
theorem lo8 (s : Nat) (h : s < 65536) : IntKind.u8.wrap (s : Int) = ((s % 256 : Nat) : Int) := by
  simp only [IntKind.wrap, IntKind.bits, IntKind.signed, Bool.false_and, Bool.false_eq_true, if_false]; omega
theorem wu8n (a : Nat) (h : a < 256) : IntKind.u8.wrap (a : Int) = a := w8 (by omega) (by omega)

theorem By.of_sl {H : Hp} {n g off cap : Nat} {ex : Bool} {l : List Nat} (hs : Sl H n g off l) (hn : n < H.next) : By H (.sl n g off l.length cap ex 1) l := .inr ⟨n, g, off, cap, ex, rfl, hn, hs⟩

theorem add {H : Hp} {n g off cap : Nat} {ex : Bool} {l : List Nat} (hs : Sl H n g off l) (hn : n < H.next) (hb : ∀ x ∈ l, x < 256) (hl : l.length < 2 ^ 20) :
    ∃ n' H', callL ctx 8 [.sl n g off l.length cap ex 1] H = some (.sl n' 0 0 (withSum l).length (withSum l).length true 1, H') ∧ H.next ≤ n' ∧ n' < H'.next ∧ Sl H' n' 0 0 (withSum l) ∧ Fr H.next H H' := by
  obtain ⟨H1, a1, a2⟩ := sum (cap := cap) (ex := ex) hs hn hb (by omega)
  have hs16 := sumOf_lt l
  change callL ctx 26 [.sl n g off l.length cap ex 1] H = some (.s (.int .u16 (sumOf l : Nat)), H1) at a1
  generalize hss : sumOf l = s at hs16 a1
  have hws : withSum l = l ++ [s % 256, s / 256] := by unfold withSum; rw [hss]
  -- the two octets, the slice of the two
  have f1 : Fr H1.next H1 ((H1.alloc (bs [s % 256, s / 256]) 5).alloc [.sl n g off l.length cap ex 1, .sl H1.next 0 0 2 2 true 1] 23) := (Fr.alloc H1 _ _).trans ((Fr.alloc _ _ _).mono (by simp [Hp.alloc]))
  have f2 : Fr (H1.next + 1) (H1.alloc (bs [s % 256, s / 256]) 5) ((H1.alloc (bs [s % 256, s / 256]) 5).alloc [.sl n g off l.length cap ex 1, .sl H1.next 0 0 2 2 true 1] 23) := Fr.alloc _ _ _
  have hx : By ((H1.alloc (bs [s % 256, s / 256]) 5).alloc [.sl n g off l.length cap ex 1, .sl H1.next 0 0 2 2 true 1] 23) (.sl n g off l.length cap ex 1) l := (By.of_sl (cap := cap) (ex := ex) (hs.fr a2 hn) (Nat.lt_of_lt_of_le hn a2.1)).fr f1 (Nat.le_refl _)
  have hy : By ((H1.alloc (bs [s % 256, s / 256]) 5).alloc [.sl n g off l.length cap ex 1, .sl H1.next 0 0 2 2 true 1] 23) (.sl H1.next 0 0 2 2 true 1) [s % 256, s / 256] :=
    .inr ⟨H1.next, 0, 0, 2, true, rfl, by show H1.next < H1.next + 1 + 1; omega, (Own.of_alloc H1 [s % 256, s / 256]).sl.fr f2 (by omega)⟩
  obtain ⟨H2, b1, b2, b3, b4⟩ := concat (H := (H1.alloc (bs [s % 256, s / 256]) 5).alloc [.sl n g off l.length cap ex 1, .sl H1.next 0 0 2 2 true 1] 23) (N := H1.next + 1) (Hp.get_alloc_same _ _ _) (by simp [Hp.alloc]) hx hy (by simp) (by simp; omega)
  refine ⟨H1.next + 2, H2, ?_, by have := a2.1; omega, ?_, by rw [hws]; exact b2.sl, ?_⟩
  · rw [cg8]
    simp only [Tryd.f8, Option.getD_some]
    have e1 := lo8 s hs16
    have e2 : (s : Int).fdiv ((2 : Int) ^ 8) = ((s / 256 : Nat) : Int) := fdn s 8
    have e3 := wu8n (s / 256) (by omega)
    have e4 : ¬ ((8 : Int) < 0) := by decide
    have e5 : [V.s (.int .u8 ((s % 256 : Nat) : Int)), V.s (.int .u8 ((s / 256 : Nat) : Int))] = bs [s % 256, s / 256] := rfl
    have e6 := bs2_37 (H1.alloc (bs [s % 256, s / 256]) 5) (.sl n g off l.length cap ex 1) (.sl H1.next 0 0 2 2 true 1) rfl rfl
    rw [hws]
    simp only [Hp.next_alloc] at b1 e6
    simp (maxSteps := 5000000) (disch := first | assumption | omega | (refine id ?_; with_unfolding_all rfl) | (simp only [Hp.next_alloc, Hp.next_set, List.length_cons, List.length_nil]; omega)) only [↓g_seq, ↓g_skip, ↓g_ret, ↓g_exit, ↓g_label, ↓g_block, ↓g_cond, ↓g_region, ctx_P, ↓nb_norm, nb_norm, ↓nb_ret, nb_ret, ↓nb_exit, nb_exit, bx_norm, bx_ret, bx_exit, beq_self_eq_true, ↓cb_t, cb_t, ↓cb_f, cb_f, ↓gb_t, gb_t, ↓gb_f, gb_f, ↓ob_some, ob_some, ↓hb_some, hb_some, ↓vb_some, vb_some, ↓xb_some, xb_some, ↓rb_some, rb_some, ↓fb_fn, fb_fn, ↓fin_norm, fin_norm, ↓fin_ret, fin_ret, ↓fin1_one, fin1_one, ↓fin1_nil, fin1_nil, ↓fin1_two, fin1_two, resl_nil, resl_tmp, resl_cell, vload_ptr, gdl_zero, gdl_succ, wv_bool, wv_tup, wd_some, ↓r_nil, ↓r_guard, ↓r_move, ↓r_assign, ↓r_bin, ↓r_un, ↓r_conv, ↓r_load, ↓r_store, ↓r_alloc, ↓r_box, ↓r_pick, ↓r_build, ↓r_buildSlice, ↓r_nilCheck, ↓r_nilCheck0, ↓r_makeFunc, ↓r_makeSlice, ↓r_slice, ↓r_fieldAddr, ↓r_field, ↓r_indexAddr, ↓r_index, ↓r_extract, extract_tup, ↓r_builtin, ↓r_call, put_some, put_none, ev_tmp, ev_const, ev_func, kill_t, kill_f, kill_nil, getD_zero, getD_succ, vpick_b, vstore_ptr, vnil_ptr, vnil_fn, evp_mk, constOp, undefV, l_map, l_map0, l_set0, l_set, l_get0, l_get, List.append_nil, l_app0, List.nil_append, l_app, l_rep, l_rep0, o_bind, Option.bind_some, Option.bind_none, o_map, o_mapn, c_t, c_f, if_true, if_false, reduceCtorEq, Bool.false_eq_true, Bool.or_true, Bool.true_or, Bool.or_false, Bool.false_or, Bool.not_true, Bool.not_false, ↓fo_cons, fo_cons, fo_nil, eq_self, decide_true, decide_false, Int.reduceEq, Int.reduceNe, Int.reduceLT, Int.reduceLE, Int.reduceNeg, Int.reduceToNat, Nat.reduceAdd, Nat.reduceMul, Nat.reduceEqDiff, Nat.reduceBEq, Int.toNat_natCast, Nat.zero_add, Nat.add_zero, Nat.mul_one, vb_add, vb_sub, vb_mul, vb_quo, vb_rem, vb_and, vb_or, vb_xor, vb_shl, vb_shr, vb_eql, vb_neq, vb_lss, vb_leq, vb_gtr, vb_geq, sb_some, ld1_mk, st1_mk, stA_all, ldA_all, blk_alloc_at, blk_alloc_other, blk_set_same, blk_set_other, Hp.next_alloc, Hp.next_set, set_set, alloc_put_at, newVar_agg, newVar_int, ld3, ld4, ld5, ld22, ld26, ld30, ld81, ld23, ld37, ld28, ld25, ld58, ld82, ld72, st3, st4, st5, st22, st26, st30, st81, st23, st37, st28, st25, st58, st82, st72, fa28_0, fa28_1, fa28_2, fa28_3, fa28_4, fa28_5, fa28_6, fa25_0, fa25_1, fa25_2, fa25_3, fa25_4, fa25_5, fa58_0, fa58_1, fa58_2, fa58_3, fa58_4, fa58_5, fa58_6, ix23, ln23, ln23n, cp23, cp23n, ix37, ln37, ln37n, cp37, cp37n, ix82, ix72, cv81_5, cv5_81, cv5_3, cv3_5, cv22_3, cv22_5, cv5_22, cv3_22, K8_0, K8_1, K8_2, a1, e1, min8_16, e2, e3, bs2_23, e5, e6, b1, clip]
  · rw [b3]; simp [Hp.alloc]
  · exact (a2.trans (f1.mono a2.1)).trans (b4.mono (by have := a2.1; simp [Hp.alloc]; omega))

theorem checked {H : Hp} {n g off cap : Nat} {ex : Bool} {l : List Nat} (hs : Sl H n g off (withSum l)) (hn : n < H.next) (hb : ∀ x ∈ l, x < 256) (h0 : l ≠ []) (hl : l.length < 2 ^ 20) :
    ∃ n' H', callL ctx 12 [.sl n g off (withSum l).length cap ex 1] H = some (.tup [.sl n' 0 0 l.length l.length true 1, .s (.int .i64 0)], H') ∧ H.next ≤ n' ∧ n' < H'.next ∧ Sl H' n' 0 0 l ∧ Fr H.next H H' := by
  have hlen : (withSum l).length = l.length + 2 := by simp [withSum]
  have hs0 : Sl H n g off l := by
    have := hs.sub 0 l.length (by omega)
    simpa [withSum] using this
  obtain ⟨H1, a1, a2⟩ := sum (cap := cap) (ex := ex) hs0 hn hb (by omega)
  have hs16 := sumOf_lt l
  change callL ctx 26 [.sl n g off l.length cap ex 1] H = some (.s (.int .u16 (sumOf l : Nat)), H1) at a1
  have c1 := clone (cap := cap) (ex := ex) (hs0.fr a2 hn) (Nat.lt_of_lt_of_le hn a2.1) h0 (by omega)
  have hs1 := hs.fr a2 hn
  have r1 := hs1.at (i := l.length) (by omega)
  have r2 := hs1.at (i := l.length + 1) (by omega)
  have v1 : (withSum l)[l.length]'(by omega) = sumOf l % 256 := by simp [withSum]
  have v2 : (withSum l)[l.length + 1]'(by omega) = sumOf l / 256 := by simp [withSum]
  rw [v1] at r1
  rw [v2] at r2
  generalize sumOf l = s at hs16 a1 r1 r2
  refine ⟨H1.next + 1, (H1.alloc [] 5).alloc (bs l) 5, ?_, by have := a2.1; omega, by simp [Hp.alloc], (Own.of_alloc (H1.alloc [] 5) l).sl, a2.trans (((Fr.alloc H1 _ _).trans ((Fr.alloc _ _ _).mono (by simp [Hp.alloc]))).mono a2.1)⟩
  rw [hlen, cg12]
  simp only [Tryd.f12, Option.getD_some]
  have e1 : IntKind.i64.wrap (((l.length + 2 : Nat) : Int) - 2) = (l.length : Int) := by rw [w64 (by omega) (by omega)]; omega
  have e2 : decide ((l.length : Int) < 0) = false := by simp
  have e3 := sl_to H n g off (l.length + 2) cap ex (i := (l.length : Int)) (by omega) (by omega)
  have e3' := sl_to H1 n g off (l.length + 2) cap ex (i := (l.length : Int)) (by omega) (by omega)
  have e4 := ix23 n g off (l.length + 2) cap ex (i := (l.length : Int)) (by omega) (by omega)
  have e5 := ix23 n g off (l.length + 2) cap ex (i := ((l.length + 1 : Nat) : Int)) (by omega) (by omega)
  have e6 : IntKind.i64.wrap ((l.length : Int) + 1) = ((l.length + 1 : Nat) : Int) := by rw [w64 (by omega) (by omega)]; rfl
  have e7 := lo8 s hs16
  have e8 : (s : Int).fdiv ((2 : Int) ^ 8) = ((s / 256 : Nat) : Int) := fdn s 8
  have e9 := wu8n (s / 256) (by omega)
  have e10 : ¬ ((8 : Int) < 0) := by decide
  simp only [Int.toNat_natCast, Nat.mul_one] at e3 e3' e4 e5
  simp (maxSteps := 5000000) (disch := first | assumption | omega | (refine id ?_; with_unfolding_all rfl) | (simp only [Hp.next_alloc, Hp.next_set, List.length_cons, List.length_nil]; omega)) only [↓g_seq, ↓g_skip, ↓g_ret, ↓g_exit, ↓g_label, ↓g_block, ↓g_cond, ↓g_region, ctx_P, ↓nb_norm, nb_norm, ↓nb_ret, nb_ret, ↓nb_exit, nb_exit, bx_norm, bx_ret, bx_exit, beq_self_eq_true, ↓cb_t, cb_t, ↓cb_f, cb_f, ↓gb_t, gb_t, ↓gb_f, gb_f, ↓ob_some, ob_some, ↓hb_some, hb_some, ↓vb_some, vb_some, ↓xb_some, xb_some, ↓rb_some, rb_some, ↓fb_fn, fb_fn, ↓fin_norm, fin_norm, ↓fin_ret, fin_ret, ↓fin1_one, fin1_one, ↓fin1_nil, fin1_nil, ↓fin1_two, fin1_two, resl_nil, resl_tmp, resl_cell, vload_ptr, gdl_zero, gdl_succ, wv_bool, wv_tup, wd_some, ↓r_nil, ↓r_guard, ↓r_move, ↓r_assign, ↓r_bin, ↓r_un, ↓r_conv, ↓r_load, ↓r_store, ↓r_alloc, ↓r_box, ↓r_pick, ↓r_build, ↓r_buildSlice, ↓r_nilCheck, ↓r_nilCheck0, ↓r_makeFunc, ↓r_makeSlice, ↓r_slice, ↓r_fieldAddr, ↓r_field, ↓r_indexAddr, ↓r_index, ↓r_extract, extract_tup, ↓r_builtin, ↓r_call, put_some, put_none, ev_tmp, ev_const, ev_func, kill_t, kill_f, kill_nil, getD_zero, getD_succ, vpick_b, vstore_ptr, vnil_ptr, vnil_fn, evp_mk, constOp, undefV, l_map, l_map0, l_set0, l_set, l_get0, l_get, List.append_nil, l_app0, List.nil_append, l_app, l_rep, l_rep0, o_bind, Option.bind_some, Option.bind_none, o_map, o_mapn, c_t, c_f, if_true, if_false, reduceCtorEq, Bool.false_eq_true, Bool.or_true, Bool.true_or, Bool.or_false, Bool.false_or, Bool.not_true, Bool.not_false, ↓fo_cons, fo_cons, fo_nil, eq_self, decide_true, decide_false, Int.reduceEq, Int.reduceNe, Int.reduceLT, Int.reduceLE, Int.reduceNeg, Int.reduceToNat, Nat.reduceAdd, Nat.reduceMul, Nat.reduceEqDiff, Nat.reduceBEq, Int.toNat_natCast, Nat.zero_add, Nat.add_zero, Nat.mul_one, vb_add, vb_sub, vb_mul, vb_quo, vb_rem, vb_and, vb_or, vb_xor, vb_shl, vb_shr, vb_eql, vb_neq, vb_lss, vb_leq, vb_gtr, vb_geq, sb_some, ld1_mk, st1_mk, stA_all, ldA_all, blk_alloc_at, blk_alloc_other, blk_set_same, blk_set_other, Hp.next_alloc, Hp.next_set, set_set, alloc_put_at, newVar_agg, newVar_int, ld3, ld4, ld5, ld22, ld26, ld30, ld81, ld23, ld37, ld28, ld25, ld58, ld82, ld72, st3, st4, st5, st22, st26, st30, st81, st23, st37, st28, st25, st58, st82, st72, fa28_0, fa28_1, fa28_2, fa28_3, fa28_4, fa28_5, fa28_6, fa25_0, fa25_1, fa25_2, fa25_3, fa25_4, fa25_5, fa58_0, fa58_1, fa58_2, fa58_3, fa58_4, fa58_5, fa58_6, ix23, ln23, ln23n, cp23, cp23n, ix37, ln37, ln37n, cp37, cp37n, ix82, ix72, cv81_5, cv5_81, cv5_3, cv3_5, cv22_3, cv22_5, cv5_22, cv3_22, K12_0, K12_1, K12_2, K12_3, K12_4, K12_5, K12_6, K12_7, a1, e1, e2, e3, e3', e4, e5, e6, e7, min8_16, e8, e9, r1, r2, c1, clip]
end Go.Proofs.YtnicmcdnpeimoaaDoor
