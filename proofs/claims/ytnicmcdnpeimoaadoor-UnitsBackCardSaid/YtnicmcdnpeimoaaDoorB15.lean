/-
  The scanner: the end of a flag.
-/
import Derived.Test.YtnicmcdnpeimoaaDoorB14
set_option linter.unusedVariables false
set_option linter.unusedSimpArgs false
set_option maxRecDepth 100000
set_option maxHeartbeats 4000000
namespace Go.Proofs.YtnicmcdnpeimoaaDoor
open Go.Am
attribute [local congr] fo_first sb_first ob_first hb_first vb_first xb_first cb_first nb_first gb_first fb_first rb_first db_first run_first go_first codeL_first

theorem ld_alloc (H : Hp) (cs : List V) (e : TypeId) (k : Nat) (h : cs.length = k) : loads (H.alloc cs e) H.next 0 0 k = some cs := by
  rw [loads_of (blk_alloc_same ..) (by simp; omega)]
  simp only [List.drop_zero]
  rw [List.take_of_length_le (by omega)]
theorem max7 (ts : Array TypeId) (G : Hp) (n : Nat) : vbuiltin Tryd.prog G .max ts [.s (.int .i64 0), .s (.int .i64 (n : Int))] = some (.s (.int .i64 (n : Int)), G) := by
  simp only [vbuiltin, vminmax, vmin2, List.foldlM]
  cases n with
  | zero => rfl
  | succ n =>
    have : ((n + 1 : Nat) : Int) > 0 := by omega
    simp [this]

theorem growF {H : Hp} {S : Nat} {k f : Option Nat} {fv : V} {ls : List (List Nat)} (h : Grs H (Dm S k f) f fv ls) {v : V} {c : List Nat} (hv : Cont H (Dm S k f) v c) (hl : ls.length < 2 ^ 29) :
    ∃ f' fv' H', vbuiltin Tryd.prog (H.alloc [v] 23) .append #[37, 37] [fv, .sl H.next 0 0 1 1 true 1] = some (fv', H') ∧ Grs H' (Dm S k f') f' fv' (ls ++ [c]) ∧ fv'.cells = some [fv'] ∧ fv'.one = true ∧
      Fp (fun x => f = some x) H H' ∧ (∀ x, f' = some x → x < H.next → f = some x) := by
  have hf := flen_sl H.next 0 0 1 1 true 1
  have hc : firstCells (H.alloc [v] 23) 1 (.sl H.next 0 0 1 1 true 1) = some [v] := by
    simp only [firstCells, if_true]; exact ld_alloc H [v] 23 1 rfl
  have h1 : [v].all V.one = true := by
    obtain ⟨n, rfl, _⟩ := hv
    rfl
  have hfp : Fp (fun x => f = some x) H (H.alloc [v] 23) := Fp.alloc _ _ _ _
  cases f with
  | none =>
    obtain ⟨rfl, rfl⟩ := h
    have hb : ∀ x, x < H.next → Dm S k (some (H.next + 1)) x → Dm S k none x := fun x hx hd => by
      rcases hd with hd | hd | hd
      · exact .inl hd
      · exact .inr (.inl hd)
      · cases hd; omega
    refine ⟨some (H.next + 1), _, _, app_nilG elt37 hf hc h1 (by omega) (by omega), ⟨by simp [Hp.alloc], 0, [v], [], rfl, Hp.get_alloc_same (H.alloc [v] 23) [v] 23, ?_, trivial⟩, rfl, rfl, hfp.trans (Fp.alloc _ _ _ _), ?_⟩
    · exact hv.fp (D := fun _ => False) ((Fp.alloc _ _ _ _).trans (Fp.alloc _ _ _ _)) (fun x hx => hx.elim) hb
    · intro x hx hlt
      cases hx; omega
  | some F =>
    obtain ⟨hF, g, vs, r, rfl, ho, hcs⟩ := h
    have ho' : (H.alloc [v] 23).get F = some ⟨vs ++ r, g, true, 23, true⟩ := by rw [Hp.get_alloc_other _ _ _ _ (by omega)]; exact ho
    have hfp2 : ∀ (B : Blk), Fp (fun x => (some F : Option Nat) = some x) H ((H.alloc [v] 23).set F B) := fun B => hfp.trans (Fp.set _ _ _ rfl)
    have hlen := hcs.len
    have hfin : ∀ B : Blk, Conts ((H.alloc [v] 23).set F B) (Dm S k (some F)) (vs ++ [v]) (ls ++ [c]) := fun B =>
      Conts.snoc (hv.fp (hfp2 B) (fun x hx => .inr (.inr hx)) (fun x _ h => h)) (hcs.fp (hfp2 B) (fun x hx => .inr (.inr hx)) (fun x _ h => h))
    cases r with
    | nil =>
      have hm := app_mvG elt37 hf hc h1 (by omega) (n := F) (g := g) (len := vs.length) (cap := 0) (old := vs) (z' := true) (by rw [ho', List.append_nil]) (by omega) (by omega) (by omega)
      exact ⟨some F, _, _, hm, ⟨by simp [Hp.alloc, Hp.set]; omega, g + 1, vs ++ [v], [], by simp, by rw [Hp.get_set_same, List.append_nil], hfin _⟩, rfl, rfl, hfp2 _, fun x hx _ => hx⟩
    | cons y r =>
      have hm := app_inG elt37 hf hc h1 (by omega) (n := F) (g := g) (len := vs.length) (cap := 0) (old := vs) (mid := [y]) (post := r) (z' := true) ho' (by omega) rfl rfl
      exact ⟨some F, _, _, hm, ⟨by simp [Hp.alloc, Hp.set]; omega, g, vs ++ [v], r, by simp, by rw [Hp.get_set_same, List.append_assoc], hfin _⟩, rfl, rfl, hfp2 _, fun x hx _ => hx⟩

/-- The state behind a flag's end. -/
def endS (s : Sc) : Sc := { s with hunting := false, kept := [], found := if s.kept.length = 7 then s.found else s.found ++ [octs (s.kept.take (s.kept.length - 7)) ((s.kept.length - 7) / 8)] }
/-- What comes to the end is nothing, or the bits of whole octets. -/
def endOk (s : Sc) : Prop := s.kept.length = 7 ∨ (s.hunting = false ∧ (∀ x ∈ s.kept, x < 2) ∧ ∃ m, 5 ≤ m ∧ m ≤ 280 ∧ s.kept.length = 8 * m + 7)

theorem Gr.empty {H : Hp} {k : Option Nat} {v : V} {l : List Nat} (h : Gr H k v l) : ∃ v0, (∀ G, vslice Tryd.prog G 23 v none (some (.s (.int .i64 0))) none = some v0) ∧ Gr H k v0 [] ∧ v0.cells = some [v0] ∧ v0.one = true ∧ V.beq v0 v0 = true ∧ V.beq v v = true := by
  cases k with
  | none =>
    obtain ⟨rfl, rfl⟩ := h
    exact ⟨_, fun G => sl_nil0 G, ⟨rfl, rfl⟩, rfl, rfl, by simp [V.beq, seq], by simp [V.beq, seq]⟩
  | some K =>
    obtain ⟨h1, g, r, rfl, h3⟩ := h
    refine ⟨.sl K g 0 0 0 false 1, fun G => ?_, ⟨h1, g, bs l ++ r, rfl, h3⟩, rfl, rfl, by simp [V.beq], by simp [V.beq]⟩
    have := sl_to G K g 0 l.length 0 false (i := 0) (by omega) (by omega)
    simpa using this

theorem endc {H : Hp} {S : Nat} {k f : Option Nat} {kv fv : V} {s : Sc} (h : Scan H S k f kv fv s) (hok : endOk s) (hfl : s.found.length < 2 ^ 20) :
    ∃ f' kv' fv' H', callL ctx 45 [.ptr S 0 0] H = some (.tup [], H') ∧ Scan H' S k f' kv' fv' (endS s) ∧ Fp (Dm S k f) H H' ∧ (∀ x, f' = some x → x < H.next → f = some x) := by
  have hS := h.lt
  have hb0 : blk H S 0 = some ⟨scCells s.hunting s.errors s.ones s.kept.length kv fv, 0, true, 58, true⟩ := blk_of h.blk rfl
  obtain ⟨v0, e1, e2, e3, e4, e5, e6⟩ := h.kept.empty
  have hdn : ∀ {y : Option Nat}, y ≠ some S → ∀ x, y = some x → ¬ Dm S none none x := by
    intro y hy x hx hd
    rcases hd with rfl | hd | hd
    · exact hy hx
    · cases hd
    · cases hd
  have o45_6 := DO45_6; have p45_6 := DP45_6; simp only [fb45, Tryd.f45, Option.getD_some, opsOf, if_true, if_false, Nat.reduceEqDiff] at o45_6 p45_6
  by_cases h7 : s.kept.length = 7
  · refine ⟨f, v0, fv, H.set S ⟨scCells false s.errors s.ones 0 v0 fv, 0, true, 58, true⟩, ?_, ?_, Fp.set _ _ _ (.inl rfl), fun x hx _ => hx⟩
    · obtain ⟨hu, er, on, kp, fo⟩ := s
      dsimp only [scCells] at *
      have x1 := fun ts G => max7 ts G (kp.length - 7)
      rw [cg45]; simp only [Tryd.f45, Option.getD_some]
      cases hu
      · simp (maxSteps := 5000000) (disch := first | assumption | omega | (refine id ?_; with_unfolding_all rfl) | (simp only [Hp.next_alloc, Hp.next_set, List.length_cons, List.length_nil]; omega)) only [↓g_seq, ↓g_skip, ↓g_ret, ↓g_exit, ↓g_label, ↓g_block, ↓g_cond, ↓g_region, ctx_P, ↓nb_norm, nb_norm, ↓nb_ret, nb_ret, ↓nb_exit, nb_exit, bx_norm, bx_ret, bx_exit, beq_self_eq_true, ↓cb_t, cb_t, ↓cb_f, cb_f, ↓gb_t, gb_t, ↓gb_f, gb_f, ↓ob_some, ob_some, ↓hb_some, hb_some, ↓vb_some, vb_some, ↓xb_some, xb_some, ↓rb_some, rb_some, ↓fb_fn, fb_fn, ↓fin_norm, fin_norm, ↓fin_ret, fin_ret, ↓fin1_one, fin1_one, ↓fin1_nil, fin1_nil, ↓fin1_two, fin1_two, resl_nil, resl_tmp, resl_cell, vload_ptr, gdl_zero, gdl_succ, wv_bool, wv_tup, wd_some, ↓r_nil, ↓r_guard, ↓r_move, ↓r_assign, ↓r_bin, ↓r_un, ↓r_conv, ↓r_load, ↓r_store, ↓r_alloc, ↓r_box, ↓r_pick, ↓r_build, ↓r_buildSlice, ↓r_nilCheck, ↓r_nilCheck0, ↓r_makeFunc, ↓r_makeSlice, ↓r_slice, ↓r_fieldAddr, ↓r_field, ↓r_indexAddr, ↓r_index, ↓r_extract, extract_tup, ↓r_builtin, ↓r_call, put_some, put_none, ev_tmp, ev_const, ev_func, kill_t, kill_f, kill_nil, getD_zero, getD_succ, vpick_b, vstore_ptr, vnil_ptr, vnil_fn, evp_mk, constOp, undefV, l_map, l_map0, l_set0, l_set, l_get0, l_get, List.append_nil, l_app0, List.nil_append, l_app, l_rep, l_rep0, o_bind, Option.bind_some, Option.bind_none, o_map, o_mapn, c_t, c_f, if_true, if_false, reduceCtorEq, Bool.false_eq_true, Bool.or_true, Bool.true_or, Bool.or_false, Bool.false_or, Bool.not_true, Bool.not_false, ↓fo_cons, fo_cons, fo_nil, eq_self, decide_true, decide_false, Int.reduceEq, Int.reduceNe, Int.reduceLT, Int.reduceLE, Int.reduceNeg, Int.reduceToNat, Nat.reduceAdd, Nat.reduceMul, Nat.reduceEqDiff, Nat.reduceBEq, Int.toNat_natCast, Nat.zero_add, Nat.add_zero, Nat.mul_one, vb_add, vb_sub, vb_mul, vb_quo, vb_rem, vb_and, vb_or, vb_xor, vb_shl, vb_shr, vb_eql, vb_neq, vb_lss, vb_leq, vb_gtr, vb_geq, sb_some, ld1_mk, st1_mk, stA_all, ldA_all, blk_alloc_at, blk_alloc_other, blk_set_same, blk_set_other, Hp.next_alloc, Hp.next_set, set_set, alloc_put_at, newVar_agg, newVar_int, ld3, ld4, ld5, ld22, ld26, ld30, ld81, ld23, ld37, ld28, ld25, ld58, ld82, ld72, st3, st4, st5, st22, st26, st30, st81, st23, st37, st28, st25, st58, st82, st72, fa28_0, fa28_1, fa28_2, fa28_3, fa28_4, fa28_5, fa28_6, fa25_0, fa25_1, fa25_2, fa25_3, fa25_4, fa25_5, fa58_0, fa58_1, fa58_2, fa58_3, fa58_4, fa58_5, fa58_6, ix23, ln23, ln23n, cp23, cp23n, ix37, ln37, ln37n, cp37, cp37n, ix82, ix72, cv81_5, cv5_81, cv5_3, cv3_5, cv22_3, cv22_5, cv5_22, cv3_22, na1, ns1, na2, ns2, na3, ns3, na4, ns4, na5, ns5, na6, ns6, na7, ns7, na8, ns8, na10, ns10, na15, ns15, na16, ns16, na62, ns62, na63, ns63, na64, ns64, na127, ns127, na128, ns128, na255, ns255, na256, ns256, naa, nss, nmm, tm2, td2, tm3, td3, tm4, td4, tm5, td5, tm6, td6, tm8, td8, tm10, td10, tm16, td16, tm32, td32, tm128, td128, tm256, td256, tm272, td272, tmn, tdn, w64, w8, w16, w32, wu64, decide_eq_true, decide_eq_false, List.length_cons, List.length_nil, List.length_append, Nat.le_refl, Nat.lt_irrefl, Nat.add_sub_cancel, g_open, dr_nil, dr_cons, db_some, gw_none, gw_some, as_move, as_assign, as_bin, as_un, as_conv, as_load, as_store, as_alloc, as_box, as_pick, as_build, as_buildSlice, as_nilCheck, as_makeFunc, as_makeSlice, as_slice, as_fieldAddr, as_field, as_indexAddr, as_index, as_extract, as_builtin, as_call, sr_some, same_load, same_bin, same_conv, same_slice, ck1_some, ck0_some, ckall_nil, ckall_cons, heapAt_hAt, hAt_some, hAt_none, beq_int, beq_bool, beq_ptr, beq_sl, beq_slnil, Bool.and_true, Bool.true_and, decide_true, List.append_assoc, ↓o45_6, ↓p45_6, K45_0, K45_1, K45_2, K45_3, K45_4, K45_5, K45_6, hb0, x1, e1, e3, e4, e5, e6]
        rfl
      · simp (maxSteps := 5000000) (disch := first | assumption | omega | (refine id ?_; with_unfolding_all rfl) | (simp only [Hp.next_alloc, Hp.next_set, List.length_cons, List.length_nil]; omega)) only [↓g_seq, ↓g_skip, ↓g_ret, ↓g_exit, ↓g_label, ↓g_block, ↓g_cond, ↓g_region, ctx_P, ↓nb_norm, nb_norm, ↓nb_ret, nb_ret, ↓nb_exit, nb_exit, bx_norm, bx_ret, bx_exit, beq_self_eq_true, ↓cb_t, cb_t, ↓cb_f, cb_f, ↓gb_t, gb_t, ↓gb_f, gb_f, ↓ob_some, ob_some, ↓hb_some, hb_some, ↓vb_some, vb_some, ↓xb_some, xb_some, ↓rb_some, rb_some, ↓fb_fn, fb_fn, ↓fin_norm, fin_norm, ↓fin_ret, fin_ret, ↓fin1_one, fin1_one, ↓fin1_nil, fin1_nil, ↓fin1_two, fin1_two, resl_nil, resl_tmp, resl_cell, vload_ptr, gdl_zero, gdl_succ, wv_bool, wv_tup, wd_some, ↓r_nil, ↓r_guard, ↓r_move, ↓r_assign, ↓r_bin, ↓r_un, ↓r_conv, ↓r_load, ↓r_store, ↓r_alloc, ↓r_box, ↓r_pick, ↓r_build, ↓r_buildSlice, ↓r_nilCheck, ↓r_nilCheck0, ↓r_makeFunc, ↓r_makeSlice, ↓r_slice, ↓r_fieldAddr, ↓r_field, ↓r_indexAddr, ↓r_index, ↓r_extract, extract_tup, ↓r_builtin, ↓r_call, put_some, put_none, ev_tmp, ev_const, ev_func, kill_t, kill_f, kill_nil, getD_zero, getD_succ, vpick_b, vstore_ptr, vnil_ptr, vnil_fn, evp_mk, constOp, undefV, l_map, l_map0, l_set0, l_set, l_get0, l_get, List.append_nil, l_app0, List.nil_append, l_app, l_rep, l_rep0, o_bind, Option.bind_some, Option.bind_none, o_map, o_mapn, c_t, c_f, if_true, if_false, reduceCtorEq, Bool.false_eq_true, Bool.or_true, Bool.true_or, Bool.or_false, Bool.false_or, Bool.not_true, Bool.not_false, ↓fo_cons, fo_cons, fo_nil, eq_self, decide_true, decide_false, Int.reduceEq, Int.reduceNe, Int.reduceLT, Int.reduceLE, Int.reduceNeg, Int.reduceToNat, Nat.reduceAdd, Nat.reduceMul, Nat.reduceEqDiff, Nat.reduceBEq, Int.toNat_natCast, Nat.zero_add, Nat.add_zero, Nat.mul_one, vb_add, vb_sub, vb_mul, vb_quo, vb_rem, vb_and, vb_or, vb_xor, vb_shl, vb_shr, vb_eql, vb_neq, vb_lss, vb_leq, vb_gtr, vb_geq, sb_some, ld1_mk, st1_mk, stA_all, ldA_all, blk_alloc_at, blk_alloc_other, blk_set_same, blk_set_other, Hp.next_alloc, Hp.next_set, set_set, alloc_put_at, newVar_agg, newVar_int, ld3, ld4, ld5, ld22, ld26, ld30, ld81, ld23, ld37, ld28, ld25, ld58, ld82, ld72, st3, st4, st5, st22, st26, st30, st81, st23, st37, st28, st25, st58, st82, st72, fa28_0, fa28_1, fa28_2, fa28_3, fa28_4, fa28_5, fa28_6, fa25_0, fa25_1, fa25_2, fa25_3, fa25_4, fa25_5, fa58_0, fa58_1, fa58_2, fa58_3, fa58_4, fa58_5, fa58_6, ix23, ln23, ln23n, cp23, cp23n, ix37, ln37, ln37n, cp37, cp37n, ix82, ix72, cv81_5, cv5_81, cv5_3, cv3_5, cv22_3, cv22_5, cv5_22, cv3_22, na1, ns1, na2, ns2, na3, ns3, na4, ns4, na5, ns5, na6, ns6, na7, ns7, na8, ns8, na10, ns10, na15, ns15, na16, ns16, na62, ns62, na63, ns63, na64, ns64, na127, ns127, na128, ns128, na255, ns255, na256, ns256, naa, nss, nmm, tm2, td2, tm3, td3, tm4, td4, tm5, td5, tm6, td6, tm8, td8, tm10, td10, tm16, td16, tm32, td32, tm128, td128, tm256, td256, tm272, td272, tmn, tdn, w64, w8, w16, w32, wu64, decide_eq_true, decide_eq_false, List.length_cons, List.length_nil, List.length_append, Nat.le_refl, Nat.lt_irrefl, Nat.add_sub_cancel, g_open, dr_nil, dr_cons, db_some, gw_none, gw_some, as_move, as_assign, as_bin, as_un, as_conv, as_load, as_store, as_alloc, as_box, as_pick, as_build, as_buildSlice, as_nilCheck, as_makeFunc, as_makeSlice, as_slice, as_fieldAddr, as_field, as_indexAddr, as_index, as_extract, as_builtin, as_call, sr_some, same_load, same_bin, same_conv, same_slice, ck1_some, ck0_some, ckall_nil, ckall_cons, heapAt_hAt, hAt_some, hAt_none, beq_int, beq_bool, beq_ptr, beq_sl, beq_slnil, Bool.and_true, Bool.true_and, decide_true, List.append_assoc, ↓o45_6, ↓p45_6, K45_0, K45_1, K45_2, K45_3, K45_4, K45_5, K45_6, hb0, x1, e1, e3, e4, e5, e6]
        rfl
    · have hfS : Fp (Dm S none none) H (H.set S ⟨scCells false s.errors s.ones 0 v0 fv, 0, true, 58, true⟩) := Fp.set _ _ _ (.inl rfl)
      refine ⟨by rw [Hp.get_set_same]; rfl, hS, h.kS, h.fS, h.kf, e2.fp hfS (hdn h.kS), ?_⟩
      have : (endS s).found = s.found := by simp [endS, h7]
      rw [this]
      exact h.found.fp hfS (hdn h.fS) (fun x hx => by rcases hx with hx | hx | hx; exact .inl hx; cases hx; cases hx) (fun x _ hd => hd)
  · obtain ⟨hh, hbits, m, m5, m280, hm⟩ := hok.resolve_left h7
    have hk := h.kept
    have hkS := h.kS
    cases k with
    | none => obtain ⟨_, h0⟩ := hk; rw [h0] at hm; simp at hm
    | some K =>
    obtain ⟨hK, g, r, rfl, ho⟩ := hk
    have hKS : K ≠ S := fun e => hkS (by rw [e])
    have hsub : Sl H K g 0 (s.kept.take (8 * m)) := by
      have := ho.sl.sub 0 (8 * m) (by omega)
      simpa using this
    have hlt : (s.kept.take (8 * m)).length = 8 * m := by simp; omega
    have c1 := octets (cap := 0) (ex := false) (fun x hx => hbits x (List.mem_of_mem_take hx)) hlt (by omega) m280 hsub hK
    have s1 := fun G => sl_to G K g 0 s.kept.length 0 false (i := ((8 * m : Nat) : Int)) (by omega) (by omega)
    simp only [Int.toNat_natCast] at s1
    have hO : (octs (s.kept.take (8 * m)) m).length = m := by simp [octs]
    generalize hOO : octs (s.kept.take (8 * m)) m = O at *
    have b1 := bs1_37 (H.alloc (bs O) 5) (.sl H.next 0 0 m m true 1) rfl
    have fp1 : Fp (fun _ => False) H (H.alloc (bs O) 5) := Fp.alloc _ _ _ _
    have g1 : Grs (H.alloc (bs O) 5) (Dm S (some K) f) f fv s.found := h.found.fp fp1 (fun _ _ hd => hd) (fun _ hd => hd.elim) (fun x _ hd => hd)
    have cv : Cont (H.alloc (bs O) 5) (Dm S (some K) f) (.sl H.next 0 0 m m true 1) O := ⟨H.next, by rw [hO], by simp [Hp.alloc], by
      intro hd
      rcases hd with hd | hd | hd
      · omega
      · cases hd; omega
      · have hf := h.found
        rw [hd] at hf
        have := hf.1
        omega, Own.of_alloc H O⟩
    obtain ⟨f', fv', H2, a1, a2, a3, a4, a5, a6⟩ := growF g1 cv (by omega)
    simp only [Hp.next_alloc] at a1 a6 b1
    have hlt1 : S < (H.alloc (bs O) 5).next := by simp [Hp.alloc]; omega
    have hb2 : blk H2 S 0 = some ⟨scCells s.hunting s.errors s.ones s.kept.length (.sl K g 0 s.kept.length 0 false 1) fv, 0, true, 58, true⟩ := by
      refine blk_of ?_ rfl
      rw [a5.2 S hlt1 h.fS, fp1.2 S hS (fun hd => hd), h.blk]
    have fpa : Fp (fun x => f = some x) H H2 := (fp1.mono (fun _ _ hd => hd.elim)).trans a5
    have hf' : ∀ x, f' = some x → x < H.next → f = some x := fun x hx hl => a6 x hx (by omega)
    have hfS' : f' ≠ some S := fun e => h.fS (hf' S e hS)
    have o2 : Own H2 K g s.kept r := ho.fp fpa hK (fun hd => h.kf K rfl hd)
    refine ⟨f', v0, fv', H2.set S ⟨scCells false s.errors s.ones 0 v0 fv', 0, true, 58, true⟩, ?_, ?_, (fpa.mono (fun x _ hd => .inr (.inr hd))).trans (Fp.set _ _ _ (.inl rfl)), hf'⟩
    · obtain ⟨hu, er, on, kp, fo⟩ := s
      dsimp only [scCells] at *
      subst hh
      have x1 := fun ts G => max7 ts G (8 * m)
      have y1 : kp.length - 7 = 8 * m := by omega
      have y2 : (((8 * m % 8 : Nat) : Int)) = 0 := by omega
      rw [cg45]; simp only [Tryd.f45, Option.getD_some]
      simp (maxSteps := 5000000) (disch := first | assumption | omega | (refine id ?_; with_unfolding_all rfl) | (simp only [Hp.next_alloc, Hp.next_set, List.length_cons, List.length_nil]; omega)) only [↓g_seq, ↓g_skip, ↓g_ret, ↓g_exit, ↓g_label, ↓g_block, ↓g_cond, ↓g_region, ctx_P, ↓nb_norm, nb_norm, ↓nb_ret, nb_ret, ↓nb_exit, nb_exit, bx_norm, bx_ret, bx_exit, beq_self_eq_true, ↓cb_t, cb_t, ↓cb_f, cb_f, ↓gb_t, gb_t, ↓gb_f, gb_f, ↓ob_some, ob_some, ↓hb_some, hb_some, ↓vb_some, vb_some, ↓xb_some, xb_some, ↓rb_some, rb_some, ↓fb_fn, fb_fn, ↓fin_norm, fin_norm, ↓fin_ret, fin_ret, ↓fin1_one, fin1_one, ↓fin1_nil, fin1_nil, ↓fin1_two, fin1_two, resl_nil, resl_tmp, resl_cell, vload_ptr, gdl_zero, gdl_succ, wv_bool, wv_tup, wd_some, ↓r_nil, ↓r_guard, ↓r_move, ↓r_assign, ↓r_bin, ↓r_un, ↓r_conv, ↓r_load, ↓r_store, ↓r_alloc, ↓r_box, ↓r_pick, ↓r_build, ↓r_buildSlice, ↓r_nilCheck, ↓r_nilCheck0, ↓r_makeFunc, ↓r_makeSlice, ↓r_slice, ↓r_fieldAddr, ↓r_field, ↓r_indexAddr, ↓r_index, ↓r_extract, extract_tup, ↓r_builtin, ↓r_call, put_some, put_none, ev_tmp, ev_const, ev_func, kill_t, kill_f, kill_nil, getD_zero, getD_succ, vpick_b, vstore_ptr, vnil_ptr, vnil_fn, evp_mk, constOp, undefV, l_map, l_map0, l_set0, l_set, l_get0, l_get, List.append_nil, l_app0, List.nil_append, l_app, l_rep, l_rep0, o_bind, Option.bind_some, Option.bind_none, o_map, o_mapn, c_t, c_f, if_true, if_false, reduceCtorEq, Bool.false_eq_true, Bool.or_true, Bool.true_or, Bool.or_false, Bool.false_or, Bool.not_true, Bool.not_false, ↓fo_cons, fo_cons, fo_nil, eq_self, decide_true, decide_false, Int.reduceEq, Int.reduceNe, Int.reduceLT, Int.reduceLE, Int.reduceNeg, Int.reduceToNat, Nat.reduceAdd, Nat.reduceMul, Nat.reduceEqDiff, Nat.reduceBEq, Int.toNat_natCast, Nat.zero_add, Nat.add_zero, Nat.mul_one, vb_add, vb_sub, vb_mul, vb_quo, vb_rem, vb_and, vb_or, vb_xor, vb_shl, vb_shr, vb_eql, vb_neq, vb_lss, vb_leq, vb_gtr, vb_geq, sb_some, ld1_mk, st1_mk, stA_all, ldA_all, blk_alloc_at, blk_alloc_other, blk_set_same, blk_set_other, Hp.next_alloc, Hp.next_set, set_set, alloc_put_at, newVar_agg, newVar_int, ld3, ld4, ld5, ld22, ld26, ld30, ld81, ld23, ld37, ld28, ld25, ld58, ld82, ld72, st3, st4, st5, st22, st26, st30, st81, st23, st37, st28, st25, st58, st82, st72, fa28_0, fa28_1, fa28_2, fa28_3, fa28_4, fa28_5, fa28_6, fa25_0, fa25_1, fa25_2, fa25_3, fa25_4, fa25_5, fa58_0, fa58_1, fa58_2, fa58_3, fa58_4, fa58_5, fa58_6, ix23, ln23, ln23n, cp23, cp23n, ix37, ln37, ln37n, cp37, cp37n, ix82, ix72, cv81_5, cv5_81, cv5_3, cv3_5, cv22_3, cv22_5, cv5_22, cv3_22, na1, ns1, na2, ns2, na3, ns3, na4, ns4, na5, ns5, na6, ns6, na7, ns7, na8, ns8, na10, ns10, na15, ns15, na16, ns16, na62, ns62, na63, ns63, na64, ns64, na127, ns127, na128, ns128, na255, ns255, na256, ns256, naa, nss, nmm, tm2, td2, tm3, td3, tm4, td4, tm5, td5, tm6, td6, tm8, td8, tm10, td10, tm16, td16, tm32, td32, tm128, td128, tm256, td256, tm272, td272, tmn, tdn, w64, w8, w16, w32, wu64, decide_eq_true, decide_eq_false, List.length_cons, List.length_nil, List.length_append, Nat.le_refl, Nat.lt_irrefl, Nat.add_sub_cancel, g_open, dr_nil, dr_cons, db_some, gw_none, gw_some, as_move, as_assign, as_bin, as_un, as_conv, as_load, as_store, as_alloc, as_box, as_pick, as_build, as_buildSlice, as_nilCheck, as_makeFunc, as_makeSlice, as_slice, as_fieldAddr, as_field, as_indexAddr, as_index, as_extract, as_builtin, as_call, sr_some, same_load, same_bin, same_conv, same_slice, ck1_some, ck0_some, ckall_nil, ckall_cons, heapAt_hAt, hAt_some, hAt_none, beq_int, beq_bool, beq_ptr, beq_sl, beq_slnil, Bool.and_true, Bool.true_and, decide_true, List.append_assoc, ↓o45_6, ↓p45_6, K45_0, K45_1, K45_2, K45_3, K45_4, K45_5, K45_6, hb0, x1, y1, y2, s1, c1, b1, a1, a3, a4, hb2, e1, e3, e4, e5, e6]
      rfl
    · have hfS : Fp (Dm S none none) H2 (H2.set S ⟨scCells false s.errors s.ones 0 v0 fv', 0, true, 58, true⟩) := Fp.set _ _ _ (.inl rfl)
      refine ⟨by rw [Hp.get_set_same]; rfl, by show S < H2.next; have := fpa.1; omega, h.kS, hfS', ?_, ?_, ?_⟩
      · intro x hx hx'
        cases hx
        exact h.kf K rfl (hf' K hx' hK)
      · show Gr (H2.set S _) (some K) v0 []
        exact (e2.fp fpa (fun x hx hd => h.kf x hx hd)).fp hfS (hdn h.kS)
      · have : (endS s).found = s.found ++ [O] := by
          simp only [endS, h7, if_false]
          rw [show s.kept.length - 7 = 8 * m by omega, show 8 * m / 8 = m by omega, hOO]
        rw [this]
        exact a2.fp hfS (hdn hfS') (fun x hx => by rcases hx with hx | hx | hx; exact .inl hx; cases hx; cases hx) (fun x _ hd => hd)
end Go.Proofs.YtnicmcdnpeimoaaDoor
