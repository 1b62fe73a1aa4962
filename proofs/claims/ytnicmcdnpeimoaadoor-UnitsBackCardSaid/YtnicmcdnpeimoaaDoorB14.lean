/-
  The scanner: what one bit does.
-/
import Derived.Test.YtnicmcdnpeimoaaDoorB13
set_option linter.unusedVariables false
set_option linter.unusedSimpArgs false
set_option maxRecDepth 100000
set_option maxHeartbeats 4000000
namespace Go.Proofs.YtnicmcdnpeimoaaDoor
open Go.Am
attribute [local congr] fo_first sb_first ob_first hb_first vb_first xb_first cb_first nb_first gb_first fb_first rb_first db_first run_first go_first codeL_first

theorem elt23 : Elt Tryd.prog 23 5 1 1 := ⟨Tryd.underlying23, ⟨_, rfl, by kernel_rfl, by kernel_rfl, by kernel_rfl⟩, by omega, by omega⟩
theorem elt37 : Elt Tryd.prog 37 23 1 24 := ⟨Tryd.underlying37, ⟨_, rfl, by kernel_rfl, by kernel_rfl, by kernel_rfl⟩, by omega, by omega⟩

/-- A scanner: whether it waits for a flag, its errors, the ones in a row, the bits since the last flag, the contents that it has found. -/
structure Sc where
  hunting : Bool
  errors : Nat
  ones : Nat
  kept : List Nat
  found : List (List Nat)
def scCells (h : Bool) (e o m : Nat) (kv fv : V) : List V := [.s (.bool true), .s (.bool h), .s (.int .i64 e), .s (.int .i64 o), .s (.int .i64 m), kv, fv]

/-- A slice of octets that grows by append in a block k of its own. -/
def Gr (H : Hp) (k : Option Nat) (v : V) (l : List Nat) : Prop :=
  match k with
  | none => v = .s (.slice none 0 0) ∧ l = []
  | some K => K < H.next ∧ ∃ g r, v = .sl K g 0 l.length 0 false 1 ∧ Own H K g l r
/-- A slice of its own, which is not changed any more. -/
def Cont (H : Hp) (bad : Nat → Prop) (v : V) (c : List Nat) : Prop := ∃ n, v = .sl n 0 0 c.length c.length true 1 ∧ n < H.next ∧ ¬ bad n ∧ Own H n 0 c []
def Conts (H : Hp) (bad : Nat → Prop) : List V → List (List Nat) → Prop
  | [], [] => True
  | v :: vs, c :: cs => Cont H bad v c ∧ Conts H bad vs cs
  | _, _ => False
/-- A slice of such slices that grows by append in a block f of its own. -/
def Grs (H : Hp) (bad : Nat → Prop) (f : Option Nat) (v : V) (ls : List (List Nat)) : Prop :=
  match f with
  | none => v = .s (.slice none 0 0) ∧ ls = []
  | some F => F < H.next ∧ ∃ g vs r, v = .sl F g 0 vs.length 0 false 1 ∧ H.get F = some ⟨vs ++ r, g, true, 23, true⟩ ∧ Conts H bad vs ls

/-- The blocks of a scanner. -/
def Dm (S : Nat) (k f : Option Nat) (x : Nat) : Prop := x = S ∨ k = some x ∨ f = some x
/-- Nothing but what D names is changed. -/
def Fp (D : Nat → Prop) (A B : Hp) : Prop := A.next ≤ B.next ∧ ∀ x, x < A.next → ¬ D x → B.get x = A.get x
theorem Fp.refl (D : Nat → Prop) (A : Hp) : Fp D A A := ⟨Nat.le_refl _, fun _ _ _ => rfl⟩
theorem Fp.trans {D : Nat → Prop} {A B C : Hp} (h : Fp D A B) (k : Fp D B C) : Fp D A C := ⟨Nat.le_trans h.1 k.1, fun x hx hd => (k.2 x (Nat.lt_of_lt_of_le hx h.1) hd).trans (h.2 x hx hd)⟩
theorem Fp.mono {D E : Nat → Prop} {A B : Hp} (h : Fp D A B) (hD : ∀ x, x < A.next → D x → E x) : Fp E A B := ⟨h.1, fun x hx hd => h.2 x hx fun hx' => hd (hD x hx hx')⟩
theorem Fp.alloc (D : Nat → Prop) (A : Hp) (cs : List V) (e : TypeId) : Fp D A (A.alloc cs e) := ⟨by simp [Hp.alloc], fun x hx _ => Hp.get_alloc_other _ _ _ _ (by omega)⟩
theorem Fp.set {D : Nat → Prop} (A : Hp) (n : Nat) (b : Blk) (h : D n) : Fp D A (A.set n b) := ⟨Nat.le_refl _, fun x hx hd => Hp.get_set_other _ _ _ _ (fun e => hd (e ▸ h))⟩
theorem Fp.ofFr {D : Nat → Prop} {A B : Hp} (h : Fr A.next A B) : Fp D A B := ⟨h.1, fun x hx _ => h.2 x hx⟩

theorem Own.fp {D : Nat → Prop} {A B : Hp} (f : Fp D A B) {n g : Nat} {l : List Nat} {r : List V} (hn : n < A.next) (hd : ¬ D n) (h : Own A n g l r) : Own B n g l r := by
  unfold Own; rw [f.2 n hn hd]; exact h
theorem Sl.fp {D : Nat → Prop} {A B : Hp} (f : Fp D A B) {n g off : Nat} {l : List Nat} (hn : n < A.next) (hd : ¬ D n) (h : Sl A n g off l) : Sl B n g off l := by
  unfold Sl; rw [loads_get (f.2 n hn hd)]; exact h
theorem Cont.fp {D bad bad' : Nat → Prop} {A B : Hp} (f : Fp D A B) (hD : ∀ x, D x → bad x) (hb : ∀ x, x < A.next → bad' x → bad x) {v : V} {c : List Nat} (h : Cont A bad v c) : Cont B bad' v c := by
  obtain ⟨n, h1, h2, h3, h4⟩ := h
  exact ⟨n, h1, Nat.lt_of_lt_of_le h2 f.1, fun h => h3 (hb n h2 h), h4.fp f h2 (fun h => h3 (hD n h))⟩
theorem Conts.fp {D bad bad' : Nat → Prop} {A B : Hp} (f : Fp D A B) (hD : ∀ x, D x → bad x) (hb : ∀ x, x < A.next → bad' x → bad x) : ∀ {vs : List V} {cs : List (List Nat)}, Conts A bad vs cs → Conts B bad' vs cs := by
  intro vs
  induction vs with
  | nil => intro cs h; cases cs <;> simp_all [Conts]
  | cons v vs ih =>
    intro cs h
    cases cs with
    | nil => exact absurd h (by simp [Conts])
    | cons c cs => exact ⟨h.1.fp f hD hb, ih h.2⟩
theorem Conts.len {bad : Nat → Prop} {A : Hp} : ∀ {vs : List V} {cs : List (List Nat)}, Conts A bad vs cs → vs.length = cs.length := by
  intro vs
  induction vs with
  | nil => intro cs h; cases cs <;> simp_all [Conts]
  | cons v vs ih =>
    intro cs h
    cases cs with
    | nil => exact absurd h (by simp [Conts])
    | cons c cs => simp only [List.length_cons]; rw [ih h.2]
theorem Conts.snoc {bad : Nat → Prop} {A : Hp} {v : V} {c : List Nat} (hv : Cont A bad v c) : ∀ {vs : List V} {cs : List (List Nat)}, Conts A bad vs cs → Conts A bad (vs ++ [v]) (cs ++ [c]) := by
  intro vs
  induction vs with
  | nil =>
    intro cs h
    cases cs with
    | nil => exact ⟨hv, trivial⟩
    | cons => exact absurd h (by simp [Conts])
  | cons w vs ih =>
    intro cs h
    cases cs with
    | nil => exact absurd h (by simp [Conts])
    | cons d cs => exact ⟨h.1, ih h.2⟩

/-- The scanner in memory. -/
structure Scan (H : Hp) (S : Nat) (k f : Option Nat) (kv fv : V) (s : Sc) : Prop where
  blk : H.get S = some ⟨scCells s.hunting s.errors s.ones s.kept.length kv fv, 0, true, 58, true⟩
  lt : S < H.next
  kS : k ≠ some S
  fS : f ≠ some S
  kf : ∀ x, k = some x → f = some x → False
  kept : Gr H k kv s.kept
  found : Grs H (Dm S k f) f fv s.found

/-- One octet is appended to what grows. -/
theorem grow1 {H : Hp} {k : Option Nat} {kv : V} {l : List Nat} (h : Gr H k kv l) (b : Nat) (hl : l.length < 2 ^ 29) :
    ∃ k' kv' H', vbuiltin Tryd.prog (H.alloc (bs [b]) 5) .append #[23, 23] [kv, .sl H.next 0 0 1 1 true 1] = some (kv', H') ∧ Gr H' k' kv' (l ++ [b]) ∧ kv'.cells = some [kv'] ∧ kv'.one = true ∧
      Fp (fun x => k = some x) H H' ∧ (∀ x, k' = some x → x < H.next → k = some x) := by
  have hs1 : Sl (H.alloc (bs [b]) 5) H.next 0 0 [b] := (Own.of_alloc H [b]).sl
  have hf := flen_sl H.next 0 0 1 1 true 1
  have hc := first_sl hs1 (cap := 1) (ex := true)
  have h1 := bs_one [b]
  have hfp : Fp (fun x => k = some x) H (H.alloc (bs [b]) 5) := Fp.alloc _ _ _ _
  cases k with
  | none =>
    obtain ⟨rfl, rfl⟩ := h
    refine ⟨some (H.next + 1), _, _, app_nilG elt23 hf hc h1 (by omega) (by omega), ⟨by simp [Hp.alloc], 0, [], rfl, Own.of_alloc (H.alloc (bs [b]) 5) [b]⟩, rfl, rfl, hfp.trans (Fp.alloc _ _ _ _), ?_⟩
    intro x hx hlt
    cases hx; omega
  | some K =>
    obtain ⟨hK, g, r, rfl, ho⟩ := h
    have ho' := ho.fp (Fp.alloc (fun _ => False) H (bs [b]) 5) hK (by simp)
    have hfp2 : ∀ (B : Blk), Fp (fun x => (some K : Option Nat) = some x) H ((H.alloc (bs [b]) 5).set K B) := fun B => hfp.trans (Fp.set _ _ _ rfl)
    cases r with
    | nil =>
      have hm := app_mvG elt23 hf hc h1 (by omega) (n := K) (g := g) (len := l.length) (cap := 0) (old := bs l) (z' := true) (by rw [ho', List.append_nil]) (by simp [bs]) (by omega) (by omega)
      refine ⟨some K, _, _, hm, ⟨by simp [Hp.alloc, Hp.set]; omega, g + 1, [], by simp, by unfold Own; rw [Hp.get_set_same, bs_append, List.append_nil]⟩, rfl, rfl, hfp2 _, fun x hx _ => hx⟩
    | cons y r =>
      have hm := app_inG elt23 hf hc h1 (by omega) (n := K) (g := g) (len := l.length) (cap := 0) (old := bs l) (mid := [y]) (post := r) (z' := true) ho' (by simp [bs]) rfl (by simp [bs])
      refine ⟨some K, _, _, hm, ⟨by simp [Hp.alloc, Hp.set]; omega, g, r, by simp, by unfold Own; rw [Hp.get_set_same, bs_append, List.append_assoc]⟩, rfl, rfl, hfp2 _, fun x hx _ => hx⟩

theorem Gr.fp {D : Nat → Prop} {A B : Hp} (f : Fp D A B) {k : Option Nat} {v : V} {l : List Nat} (hd : ∀ x, k = some x → ¬ D x) (h : Gr A k v l) : Gr B k v l := by
  cases k with
  | none => exact h
  | some K =>
    obtain ⟨h1, g, r, h2, h3⟩ := h
    exact ⟨Nat.lt_of_lt_of_le h1 f.1, g, r, h2, h3.fp f h1 (hd K rfl)⟩
theorem Gr.lenN {H : Hp} {k : Option Nat} {v : V} {l : List Nat} (h : Gr H k v l) (G : Hp) : vbuiltin Tryd.prog G .len #[23] [v] = some (.s (.int .i64 l.length), G) := by
  cases k with
  | none => obtain ⟨rfl, rfl⟩ := h; exact ln23n ..
  | some K => obtain ⟨h1, g, r, rfl, h3⟩ := h; exact ln23 ..
theorem Gr.cells {H : Hp} {k : Option Nat} {v : V} {l : List Nat} (h : Gr H k v l) : v.cells = some [v] := by
  cases k with
  | none => obtain ⟨rfl, rfl⟩ := h; rfl
  | some K => obtain ⟨h1, g, r, rfl, h3⟩ := h; rfl
theorem Gr.one {H : Hp} {k : Option Nat} {v : V} {l : List Nat} (h : Gr H k v l) : v.one = true := by
  cases k with
  | none => obtain ⟨rfl, rfl⟩ := h; rfl
  | some K => obtain ⟨h1, g, r, rfl, h3⟩ := h; rfl
theorem Grs.fp {D bad bad' : Nat → Prop} {A B : Hp} (f : Fp D A B) {k : Option Nat} {v : V} {l : List (List Nat)} (hd : ∀ x, k = some x → ¬ D x) (hD : ∀ x, D x → bad x) (hb : ∀ x, x < A.next → bad' x → bad x) (h : Grs A bad k v l) : Grs B bad' k v l := by
  cases k with
  | none => exact h
  | some K =>
    obtain ⟨h1, g, vs, r, h2, h3, h4⟩ := h
    exact ⟨Nat.lt_of_lt_of_le h1 f.1, g, vs, r, h2, (f.2 K h1 (hd K rfl)).trans h3, h4.fp f hD hb⟩

theorem keep {H : Hp} {S : Nat} {k f : Option Nat} {kv fv : V} {s : Sc} (h : Scan H S k f kv fv s) (b : Nat) (hl : s.kept.length < 2247) :
    ∃ k' kv' H', callL ctx 44 [.ptr S 0 0, .s (.int .u8 b)] H = some (.tup [], H') ∧ Scan H' S k' f kv' fv { s with kept := s.kept ++ [b] } ∧ Fp (Dm S k f) H H' ∧ (∀ x, k' = some x → x < H.next → k = some x) := by
  have hS := h.lt
  have hfp0 : Fp (Dm S none none) H (H.set S ⟨scCells s.hunting s.errors s.ones (s.kept.length + 1) kv fv, 0, true, 58, true⟩) := Fp.set _ _ _ (.inl rfl)
  have hg := h.kept.fp hfp0 (fun x hx hd => by
    rcases hd with rfl | hd | hd
    · exact h.kS hx
    · cases hd
    · cases hd)
  obtain ⟨k', kv', H2, a1, a2, a3, a4, a5, a6⟩ := grow1 hg b (by omega)
  rw [Hp.next_set] at a1 a6
  have hkS' : k' ≠ some S := fun e => h.kS (a6 S e hS)
  have hb0 : blk H S 0 = some ⟨scCells s.hunting s.errors s.ones s.kept.length kv fv, 0, true, 58, true⟩ := blk_of h.blk rfl
  have hb2 : blk H2 S 0 = some ⟨scCells s.hunting s.errors s.ones (s.kept.length + 1) kv fv, 0, true, 58, true⟩ := by
    refine blk_of ?_ rfl
    rw [a5.2 S hS h.kS, Hp.get_set_same]
  have fpk : Fp (Dm S k f) H H2 := (hfp0.mono (fun x _ hx => by rcases hx with hx | hx | hx; exact .inl hx; cases hx; cases hx)).trans (a5.mono (fun x _ hx => .inr (.inl hx)))
  have hln := h.kept.lenN
  have b1 := bs1n (H.set S ⟨scCells s.hunting s.errors s.ones (s.kept.length + 1) kv fv, 0, true, 58, true⟩) b
  have hfS : Fp (Dm S none none) H2 (H2.set S ⟨scCells s.hunting s.errors s.ones (s.kept.length + 1) kv' fv, 0, true, 58, true⟩) := Fp.set _ _ _ (.inl rfl)
  have hdn : ∀ {y : Option Nat}, y ≠ some S → ∀ x, y = some x → ¬ Dm S none none x := by
    intro y hy x hx hd
    rcases hd with rfl | hd | hd
    · exact hy hx
    · cases hd
    · cases hd
  refine ⟨k', kv', H2.set S ⟨scCells s.hunting s.errors s.ones (s.kept.length + 1) kv' fv, 0, true, 58, true⟩, ?_, ?_, fpk.trans (Fp.set _ _ _ (.inl rfl)), a6⟩
  · obtain ⟨hu, er, on, kp, fo⟩ := s
    dsimp only [scCells] at *
    rw [cg44]; simp only [Tryd.f44, Option.getD_some]
    simp (maxSteps := 5000000) (disch := first | assumption | omega | (refine id ?_; with_unfolding_all rfl) | (simp only [Hp.next_alloc, Hp.next_set, List.length_cons, List.length_nil]; omega)) only [↓g_seq, ↓g_skip, ↓g_ret, ↓g_exit, ↓g_label, ↓g_block, ↓g_cond, ↓g_region, ctx_P, ↓nb_norm, nb_norm, ↓nb_ret, nb_ret, ↓nb_exit, nb_exit, bx_norm, bx_ret, bx_exit, beq_self_eq_true, ↓cb_t, cb_t, ↓cb_f, cb_f, ↓gb_t, gb_t, ↓gb_f, gb_f, ↓ob_some, ob_some, ↓hb_some, hb_some, ↓vb_some, vb_some, ↓xb_some, xb_some, ↓rb_some, rb_some, ↓fb_fn, fb_fn, ↓fin_norm, fin_norm, ↓fin_ret, fin_ret, ↓fin1_one, fin1_one, ↓fin1_nil, fin1_nil, ↓fin1_two, fin1_two, resl_nil, resl_tmp, resl_cell, vload_ptr, gdl_zero, gdl_succ, wv_bool, wv_tup, wd_some, ↓r_nil, ↓r_guard, ↓r_move, ↓r_assign, ↓r_bin, ↓r_un, ↓r_conv, ↓r_load, ↓r_store, ↓r_alloc, ↓r_box, ↓r_pick, ↓r_build, ↓r_buildSlice, ↓r_nilCheck, ↓r_nilCheck0, ↓r_makeFunc, ↓r_makeSlice, ↓r_slice, ↓r_fieldAddr, ↓r_field, ↓r_indexAddr, ↓r_index, ↓r_extract, extract_tup, ↓r_builtin, ↓r_call, put_some, put_none, ev_tmp, ev_const, ev_func, kill_t, kill_f, kill_nil, getD_zero, getD_succ, vpick_b, vstore_ptr, vnil_ptr, vnil_fn, evp_mk, constOp, undefV, l_map, l_map0, l_set0, l_set, l_get0, l_get, List.append_nil, l_app0, List.nil_append, l_app, l_rep, l_rep0, o_bind, Option.bind_some, Option.bind_none, o_map, o_mapn, c_t, c_f, if_true, if_false, reduceCtorEq, Bool.false_eq_true, Bool.or_true, Bool.true_or, Bool.or_false, Bool.false_or, Bool.not_true, Bool.not_false, ↓fo_cons, fo_cons, fo_nil, eq_self, decide_true, decide_false, Int.reduceEq, Int.reduceNe, Int.reduceLT, Int.reduceLE, Int.reduceNeg, Int.reduceToNat, Nat.reduceAdd, Nat.reduceMul, Nat.reduceEqDiff, Nat.reduceBEq, Int.toNat_natCast, Nat.zero_add, Nat.add_zero, Nat.mul_one, vb_add, vb_sub, vb_mul, vb_quo, vb_rem, vb_and, vb_or, vb_xor, vb_shl, vb_shr, vb_eql, vb_neq, vb_lss, vb_leq, vb_gtr, vb_geq, sb_some, ld1_mk, st1_mk, stA_all, ldA_all, blk_alloc_at, blk_alloc_other, blk_set_same, blk_set_other, Hp.next_alloc, Hp.next_set, set_set, alloc_put_at, newVar_agg, newVar_int, ld3, ld4, ld5, ld22, ld26, ld30, ld81, ld23, ld37, ld28, ld25, ld58, ld82, ld72, st3, st4, st5, st22, st26, st30, st81, st23, st37, st28, st25, st58, st82, st72, fa28_0, fa28_1, fa28_2, fa28_3, fa28_4, fa28_5, fa28_6, fa25_0, fa25_1, fa25_2, fa25_3, fa25_4, fa25_5, fa58_0, fa58_1, fa58_2, fa58_3, fa58_4, fa58_5, fa58_6, ix23, ln23, ln23n, cp23, cp23n, ix37, ln37, ln37n, cp37, cp37n, ix82, ix72, cv81_5, cv5_81, cv5_3, cv3_5, cv22_3, cv22_5, cv5_22, cv3_22, na1, ns1, na2, ns2, na3, ns3, na4, ns4, na5, ns5, na6, ns6, na7, ns7, na8, ns8, na10, ns10, na15, ns15, na16, ns16, na62, ns62, na63, ns63, na64, ns64, na127, ns127, na128, ns128, na255, ns255, na256, ns256, naa, nss, nmm, tm2, td2, tm3, td3, tm4, td4, tm5, td5, tm6, td6, tm8, td8, tm10, td10, tm16, td16, tm32, td32, tm128, td128, tm256, td256, tm272, td272, tmn, tdn, w64, w8, w16, w32, wu64, decide_eq_true, decide_eq_false, List.length_cons, List.length_nil, List.length_append, Nat.le_refl, Nat.lt_irrefl, Nat.add_sub_cancel, K44_0, K44_1, K44_2, hb0, hln, b1, a1, hb2, a3, a4]
  · refine ⟨by rw [Hp.get_set_same]; simp, Nat.lt_of_lt_of_le hS fpk.1, hkS', h.fS, ?_, a2.fp hfS (hdn hkS'), ?_⟩
    · intro x hx hx'
      have hf := h.found
      rw [hx'] at hf
      exact h.kf x (a6 x hx hf.1) hx'
    · have g1 : Grs H2 (Dm S k' f) f fv s.found := h.found.fp (D := fun x => x = S ∨ k = some x) (bad := Dm S k f) (bad' := Dm S k' f) ((hfp0.mono (fun x _ hx => by rcases hx with hx | hx | hx; exact .inl hx; cases hx; cases hx)).trans (a5.mono (fun x _ hx => .inr hx))) (fun x hx hd => by
        rcases hd with rfl | hd
        · exact h.fS hx
        · exact h.kf x hd hx) (fun x hx => by rcases hx with hx | hx; exact .inl hx; exact .inr (.inl hx)) (fun x hx hd => by
          rcases hd with hd | hd | hd
          · exact .inl hd
          · exact .inr (.inl (a6 x hd hx))
          · exact .inr (.inr hd))
      exact g1.fp hfS (hdn h.fS) (fun x hx => by rcases hx with hx | hx | hx; exact .inl hx; cases hx; cases hx) (fun x _ hd => hd)
end Go.Proofs.YtnicmcdnpeimoaaDoor
