/-
  Slices of octets: what append, slicing, Clone, Concat make of them.
-/
import Derived.Test.YtnicmcdnpeimoaaDoorB1
set_option linter.unusedVariables false
set_option linter.unusedSimpArgs false
set_option maxRecDepth 100000
namespace Go.Proofs.YtnicmcdnpeimoaaDoor
open Go.Am
attribute [local congr] fo_first sb_first ob_first hb_first vb_first xb_first cb_first nb_first gb_first fb_first rb_first db_first run_first go_first codeL_first

/-- A slice with these octets. -/
def Sl (H : Hp) (n g off : Nat) (l : List Nat) : Prop := loads H n g off l.length = some (bs l)
/-- A block of its own with these octets and further cells. -/
def Own (H : Hp) (n g : Nat) (l : List Nat) (r : List V) : Prop := H.get n = some ⟨bs l ++ r, g, true, 5, true⟩
/-- All blocks but those from m on are as before. -/
def Fr (m : Nat) (H H' : Hp) : Prop := H.next ≤ H'.next ∧ ∀ k, k < m → H'.get k = H.get k

theorem Fr.refl (m : Nat) (H : Hp) : Fr m H H := ⟨Nat.le_refl _, fun _ _ => rfl⟩
theorem Fr.trans {m : Nat} {A B C : Hp} (h : Fr m A B) (k : Fr m B C) : Fr m A C := ⟨Nat.le_trans h.1 k.1, fun i hi => (k.2 i hi).trans (h.2 i hi)⟩
theorem Fr.mono {m m' : Nat} {A B : Hp} (h : Fr m A B) (hm : m' ≤ m) : Fr m' A B := ⟨h.1, fun i hi => h.2 i (by omega)⟩
theorem Fr.alloc (H : Hp) (cs : List V) (e : TypeId) : Fr H.next H (H.alloc cs e) := ⟨by simp [Hp.alloc], fun k hk => Hp.get_alloc_other _ _ _ _ (by omega)⟩
theorem Fr.set (H : Hp) (n : Nat) (b : Blk) {m : Nat} (h : m ≤ n) : Fr m H (H.set n b) := ⟨Nat.le_refl _, fun k hk => Hp.get_set_other _ _ _ _ (by omega)⟩
theorem Sl.fr {m : Nat} {A B : Hp} (f : Fr m A B) {n g off : Nat} {l : List Nat} (hn : n < m) (h : Sl A n g off l) : Sl B n g off l := by
  unfold Sl; rw [loads_get (f.2 n hn)]; exact h
theorem Own.fr {m : Nat} {A B : Hp} (f : Fr m A B) {n g : Nat} {l : List Nat} {r : List V} (hn : n < m) (h : Own A n g l r) : Own B n g l r := by
  unfold Own; rw [f.2 n hn]; exact h
theorem Own.sl {H : Hp} {n g : Nat} {l : List Nat} {r : List V} (h : Own H n g l r) : Sl H n g 0 l := by
  unfold Sl
  rw [loads_of (blk_of h rfl) (by simp [bs])]
  have := bs_length l
  show some (((bs l ++ r).drop 0).take l.length) = _
  rw [List.drop_zero, ← this, List.take_left]
theorem Own.blk {H : Hp} {n g : Nat} {l : List Nat} {r : List V} (h : Own H n g l r) : blk H n g = some ⟨bs l ++ r, g, true, 5, true⟩ := blk_of h rfl
theorem Own.of_alloc (H : Hp) (l : List Nat) : Own (H.alloc (bs l) 5) H.next 0 l [] := by unfold Own; rw [Hp.get_alloc_same, List.append_nil]

theorem bs_get {l : List Nat} {i : Nat} (h : i < l.length) : (bs l)[i]? = some (.s (.int .u8 (l[i] : Nat))) := by
  simp [bs, h]
theorem Sl.at {H : Hp} {n g off : Nat} {l : List Nat} (h : Sl H n g off l) {i : Nat} (hi : i < l.length) : sb (blk H n g) (ld1 (off + i)) = some (.s (.int .u8 (l[i] : Nat))) := loads_at h (bs_get hi)
theorem Sl.sub {H : Hp} {n g off : Nat} {l : List Nat} (h : Sl H n g off l) (i j : Nat) (hj : i + j ≤ l.length) : Sl H n g (off + i) ((l.drop i).take j) := by
  unfold Sl
  have := loads_sub h i j hj
  rw [show ((l.drop i).take j).length = j by simp; omega, this]
  simp [bs, List.map_drop, List.map_take]

theorem info5 : ∃ i, Tryd.prog.info? 5 = some i ∧ i.zero = some (.int .u8 0) ∧ i.size = 1 ∧ i.bytes = 1 := ⟨_, rfl, by kernel_rfl, by kernel_rfl, by kernel_rfl⟩
theorem bs_one (l : List Nat) : (bs l).all V.one = true := by
  simp [bs, V.one]
theorem splice_at : ∀ (vs pre mid post : List V), mid.length = vs.length → splice (pre ++ (mid ++ post)) pre.length vs = pre ++ (vs ++ post) := by
  intro vs
  induction vs with
  | nil => intro pre mid post h; cases mid <;> simp_all [splice]
  | cons v vs ih =>
    intro pre mid post h
    cases mid with
    | nil => simp at h
    | cons c cs =>
      simp only [splice]
      have := ih (pre ++ [v]) cs post (by simpa using h)
      simp only [List.length_append, List.length_cons, List.length_nil, List.append_assoc, List.cons_append, List.nil_append] at this
      simpa using this

/-- What the kit's walk calls append, at octets, once what is appended is known. -/
theorem app_known (H : Hp) (n g off len cap : Nat) (ex : Bool) (x : V) (l2 : List Nat) (hf : flen x = some l2.length) (hc : firstCells H 1 x = some (bs l2)) (hx : ∀ k y, x ≠ .s (.int k y)) :
    vbuiltin Tryd.prog H .append #[23, 23] [.sl n g off len cap ex 1, x] =
      (blk H n g).bind fun b =>
      if ex = true then
        if len + l2.length ≤ cap then (stores H n g (off + len) (bs l2)).bind fun H' => some (.sl n g off (len + l2.length) cap ex 1, H')
        else (loads H n g off len).bind fun old =>
          if (len + l2.length) * 1 ≤ 2 ^ 47 ∧ len + l2.length < 2 ^ 62 then some (.sl H.next 0 0 (len + l2.length) 0 false 1, H.alloc (old ++ bs l2) 5) else none
      else if off + (len + l2.length) ≤ b.cells.length then (stores H n g (off + len) (bs l2)).bind fun H' => some (.sl n g off (len + l2.length) 0 false 1, H')
      else if off + len = b.cells.length ∧ b.rw = true ∧ (len + l2.length) * 1 ≤ 2 ^ 47 ∧ len + l2.length < 2 ^ 62 ∧ b.e = 5 then
        some (.sl n (g + 1) 0 (len + l2.length) 0 false 1, H.set n ⟨b.cells.drop off ++ bs l2, g + 1, true, 5, b.z && off == 0⟩)
      else none := by
  obtain ⟨i, h1, h2, h3, h4⟩ := info5
  have hz : (Value.int IntKind.u8 0).cells = #[Value.int IntKind.u8 0] := rfl
  have hn : vnew Tryd.prog H i (.int .u8 0) (.slice 5) x = some (l2.length, bs l2) := by
    unfold vnew
    simp only [hf, h3, hc, Option.bind_some]
  simp only [vbuiltin, vappend, List.getElem?_toArray, List.getElem?_cons_zero, List.getElem?_cons_succ, Option.bind_some, Tryd.underlying23, h1, h2, hz, hn, h3, h4, bs_one]
  simp only [List.size_toArray, List.length_cons, List.length_nil, Nat.zero_add, ne_eq, not_true_eq_false, Nat.one_ne_zero, or_self, if_false, Nat.mul_one, true_and]

theorem flen_sl (n g off len cap : Nat) (ex : Bool) (sz : Nat) : flen (.sl n g off len cap ex sz) = some len := rfl
theorem first_sl {H : Hp} {n g off cap : Nat} {ex : Bool} {l : List Nat} (h : Sl H n g off l) : firstCells H 1 (.sl n g off l.length cap ex 1) = some (bs l) := by
  simp only [firstCells, if_true, Nat.mul_one]; exact h

/-- append where there is room. -/
theorem app_in {H : Hp} {n g : Nat} {l l2 : List Nat} {r : List V} (ho : Own H n g l r) {x : V} (hf : flen x = some l2.length) (hc : firstCells H 1 x = some (bs l2)) (hx : ∀ k y, x ≠ .s (.int k y)) (hl : l2.length ≤ r.length) {len : Nat} (hlen : len = l.length) {len2 : Nat} (hlen2 : len2 = (l ++ l2).length) :
    ∃ H', vbuiltin Tryd.prog H .append #[23, 23] [.sl n g 0 len 0 false 1, x] = some (.sl n g 0 len2 0 false 1, H') ∧ Own H' n g (l ++ l2) (r.drop l2.length) ∧ H'.next = H.next ∧ ∀ k, k ≠ n → H'.get k = H.get k := by
  subst hlen hlen2
  rw [app_known H n g 0 _ 0 false x l2 hf hc hx, ho.blk]
  simp only [Option.bind_some, Bool.false_eq_true, if_false, Nat.zero_add, List.length_append, bs_length]
  rw [if_pos (by omega)]
  have hs : stores H n g l.length (bs l2) = some (H.set n ⟨bs (l ++ l2) ++ r.drop l2.length, g, true, 5, true⟩) := by
    unfold stores
    rw [ho.blk]
    simp only [Option.bind_some, bs_one, true_and]
    rw [if_pos (by simp [bs_length]; omega)]
    have h := splice_at (bs l2) (bs l) (r.take l2.length) (r.drop l2.length) (by simp [bs_length]; omega)
    rw [List.take_append_drop, bs_length] at h
    rw [h, bs_append, List.append_assoc]
  rw [hs]
  exact ⟨_, rfl, by unfold Own; rw [Hp.get_set_same], rfl, fun k hk => Hp.get_set_other _ _ _ _ hk⟩

/-- append where there is no room. -/
theorem app_mv {H : Hp} {n g : Nat} {l l2 : List Nat} (ho : Own H n g l []) {x : V} (hf : flen x = some l2.length) (hc : firstCells H 1 x = some (bs l2)) (hx : ∀ k y, x ≠ .s (.int k y)) (hl : l.length + l2.length < 2 ^ 40) {len : Nat} (hlen : len = l.length) {len2 : Nat} (hlen2 : len2 = (l ++ l2).length) :
    ∃ g' H', vbuiltin Tryd.prog H .append #[23, 23] [.sl n g 0 len 0 false 1, x] = some (.sl n g' 0 len2 0 false 1, H') ∧ Own H' n g' (l ++ l2) [] ∧ H'.next = H.next ∧ ∀ k, k ≠ n → H'.get k = H.get k := by
  by_cases h0 : l2 = []
  · subst h0
    obtain ⟨H', h1, h2, h3, h4⟩ := app_in ho hf hc hx (by simp) hlen hlen2
    exact ⟨g, H', h1, h2, h3, h4⟩
  · have h0' : 0 < l2.length := by cases l2 <;> simp_all
    subst hlen hlen2
    rw [app_known H n g 0 _ 0 false x l2 hf hc hx, ho.blk]
    simp only [Option.bind_some, Bool.false_eq_true, if_false, Nat.zero_add, List.length_append, bs_length, List.append_nil, List.drop_zero, beq_self_eq_true, Bool.and_true]
    rw [if_neg (by omega), if_pos ⟨trivial, trivial, by omega, by omega, trivial⟩]
    exact ⟨g + 1, _, rfl, by unfold Own; rw [Hp.get_set_same, bs_append, List.append_nil], rfl, fun k hk => Hp.get_set_other _ _ _ _ hk⟩

/-- append to a slice whose room is used up. -/
theorem app_ex {H : Hp} {n g off : Nat} {l l2 : List Nat} (hs : Sl H n g off l) {x : V} (hf : flen x = some l2.length) (hc : firstCells H 1 x = some (bs l2)) (hx : ∀ k y, x ≠ .s (.int k y)) (hl : l.length + l2.length < 2 ^ 40) (h0 : l2 ≠ []) {len : Nat} (hlen : len = l.length) {len2 : Nat} (hlen2 : len2 = (l ++ l2).length) :
    vbuiltin Tryd.prog H .append #[23, 23] [.sl n g off len len true 1, x] = some (.sl H.next 0 0 len2 0 false 1, H.alloc (bs (l ++ l2)) 5) := by
  have h0' : 0 < l2.length := by cases l2 <;> simp_all
  subst hlen hlen2
  obtain ⟨b, hb, _⟩ := of_loads hs
  rw [app_known H n g off _ _ true x l2 hf hc hx, hb]
  have hs' : loads H n g off l.length = some (bs l) := hs
  simp only [Option.bind_some, if_true, hs', List.length_append, bs_append]
  rw [if_neg (by omega), if_pos ⟨by omega, by omega⟩]

/-! ### Clone -/
theorem bs0_23 (H : Hp) : vbuildSlice Tryd.prog H 23 0 [] = some (.sl H.next 0 0 0 0 true 1, H.alloc [] 5) := by
  obtain ⟨i, h1, h2, h3, h4⟩ := info5
  have hz : (Value.int IntKind.u8 0).cells = #[Value.int IntKind.u8 0] := rfl
  simp [vbuildSlice, Tryd.underlying23, h1, h2, h3, hz, fill, zeroCells]
theorem neqnil (H : Hp) (n g off len cap : Nat) (ex : Bool) (c : Bool) : vbin Tryd.prog H .eql 23 c (.sl n g off len cap ex 1) (.s (.slice none 0 0)) = some (.s (.bool false)) := by
  simp [vbin, veq, Tryd.underlying23, B]
theorem clone {H : Hp} {n g off cap : Nat} {ex : Bool} {l : List Nat} (hs : Sl H n g off l) (hn : n < H.next) (h0 : l ≠ []) (hl : l.length < 2 ^ 39) :
    callL ctx 24 [.sl n g off l.length cap ex 1] H = some (.sl (H.next + 1) 0 0 l.length 0 false 1, (H.alloc [] 5).alloc (bs l) 5) := by
  rw [cg24]; simp only [Tryd.f24, Option.getD_some]
  have hs1 : Sl (H.alloc [] 5) n g off l := hs.fr (Fr.alloc H [] 5) hn
  have he : Sl (H.alloc [] 5) H.next 0 0 [] := (Own.of_alloc H []).sl
  have ha := app_ex he (flen_sl n g off l.length cap ex 1) (first_sl hs1 (cap := cap) (ex := ex)) (by simp) (by simp; omega) h0 (len := 0) rfl (len2 := l.length) (by simp)
  simp only [List.nil_append] at ha
  simp (maxSteps := 5000000) (disch := first | assumption | omega | (refine id ?_; with_unfolding_all rfl) | (simp only [Hp.next_alloc, Hp.next_set, List.length_cons, List.length_nil]; omega)) only [↓g_seq, ↓g_skip, ↓g_ret, ↓g_exit, ↓g_label, ↓g_block, ↓g_cond, ↓g_region, ctx_P, ↓nb_norm, nb_norm, ↓nb_ret, nb_ret, ↓nb_exit, nb_exit, bx_norm, bx_ret, bx_exit, beq_self_eq_true, ↓cb_t, cb_t, ↓cb_f, cb_f, ↓gb_t, gb_t, ↓gb_f, gb_f, ↓ob_some, ob_some, ↓hb_some, hb_some, ↓vb_some, vb_some, ↓xb_some, xb_some, ↓rb_some, rb_some, ↓fb_fn, fb_fn, ↓fin_norm, fin_norm, ↓fin_ret, fin_ret, ↓fin1_one, fin1_one, ↓fin1_nil, fin1_nil, ↓fin1_two, fin1_two, resl_nil, resl_tmp, resl_cell, vload_ptr, gdl_zero, gdl_succ, wv_bool, wv_tup, wd_some, ↓r_nil, ↓r_guard, ↓r_move, ↓r_assign, ↓r_bin, ↓r_un, ↓r_conv, ↓r_load, ↓r_store, ↓r_alloc, ↓r_box, ↓r_pick, ↓r_build, ↓r_buildSlice, ↓r_nilCheck, ↓r_nilCheck0, ↓r_makeFunc, ↓r_makeSlice, ↓r_slice, ↓r_fieldAddr, ↓r_field, ↓r_indexAddr, ↓r_index, ↓r_extract, extract_tup, ↓r_builtin, ↓r_call, put_some, put_none, ev_tmp, ev_const, ev_func, kill_t, kill_f, kill_nil, getD_zero, getD_succ, vpick_b, vstore_ptr, vnil_ptr, vnil_fn, evp_mk, constOp, undefV, l_map, l_map0, l_set0, l_set, l_get0, l_get, List.append_nil, l_app0, List.nil_append, l_app, l_rep, l_rep0, o_bind, Option.bind_some, Option.bind_none, o_map, o_mapn, c_t, c_f, if_true, if_false, reduceCtorEq, Bool.false_eq_true, Bool.or_true, Bool.true_or, Bool.or_false, Bool.false_or, Bool.not_true, Bool.not_false, ↓fo_cons, fo_cons, fo_nil, eq_self, decide_true, decide_false, Int.reduceEq, Int.reduceNe, Int.reduceLT, Int.reduceLE, Int.reduceNeg, Int.reduceToNat, Nat.reduceAdd, Nat.reduceMul, Nat.reduceEqDiff, Nat.reduceBEq, Int.toNat_natCast, Nat.zero_add, Nat.add_zero, Nat.mul_one, vb_add, vb_sub, vb_mul, vb_quo, vb_rem, vb_and, vb_or, vb_xor, vb_shl, vb_shr, vb_eql, vb_neq, vb_lss, vb_leq, vb_gtr, vb_geq, sb_some, ld1_mk, st1_mk, stA_all, ldA_all, blk_alloc_at, blk_alloc_other, blk_set_same, blk_set_other, Hp.next_alloc, Hp.next_set, set_set, alloc_put_at, newVar_agg, newVar_int, ld3, ld4, ld5, ld22, ld26, ld30, ld81, ld23, ld37, ld28, ld25, ld58, ld82, ld72, st3, st4, st5, st22, st26, st30, st81, st23, st37, st28, st25, st58, st82, st72, fa28_0, fa28_1, fa28_2, fa28_3, fa28_4, fa28_5, fa28_6, fa25_0, fa25_1, fa25_2, fa25_3, fa25_4, fa25_5, fa58_0, fa58_1, fa58_2, fa58_3, fa58_4, fa58_5, fa58_6, ix23, ln23, ln23n, cp23, cp23n, ix37, ln37, ln37n, cp37, cp37n, ix82, ix72, cv81_5, cv5_81, cv5_3, cv3_5, cv22_3, cv22_5, cv5_22, cv3_22, K24_0, K24_1, K24_2, K24_3, neqnil, bs0_23, ha]
end Go.Proofs.YtnicmcdnpeimoaaDoor
