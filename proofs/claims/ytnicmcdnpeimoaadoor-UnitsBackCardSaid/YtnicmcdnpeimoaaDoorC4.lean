/-
  For every input UnitsBack returns true, and the input reads as it did: the row and its tied card.
-/
import Derived.Test.YtnicmcdnpeimoaaDoorC3
import Derived.Test.YtnicmcdnpeimoaaDoorCards
import Derived.Test.YtnicmcdnpeimoaaDoorTie
import Derived.SevenTiedAt
set_option linter.unusedVariables false
set_option linter.unusedSimpArgs false
set_option maxRecDepth 1000000
set_option maxHeartbeats 4000000
namespace Go.Proofs.YtnicmcdnpeimoaaDoor
open Go.Am Go.ChangeShapes Go.WideShapes Go.ChangeAt Go.RowKit

theorem kids : Kids Tryd.prog (· < Tryd.prog.types.size) := kids_rows (by kernel_rfl) (by kernel_rfl)
theorem full : ∀ t e, t < Tryd.prog.types.size → Tryd.prog.underlying t = some (.slice e) → 0 < Tryd.prog.cellsOf e := slices_full_of Tryd.prog (by kernel_rfl)

/-- What the call comes to in the model. -/
theorem called {W : World} {b : Option Blk} {M : Mp} {e0 e1 : TypeId} (hR : Rel W M (hx e0 e1 b) W) {x : Xu} (hxo : x.Ok) {v : V} (hvx : By0 (hx e0 e1 b) v x.load) {us : List Value} (hus : VRs M (x.cells v) us) :
    Calls Tryd.prog 3 #[.agg us.toArray] W fun e w' => e = .returned (.bool true) ∧ Below W.heap.size W w' := by
  have hG : Sl (hx e0 e1 b) 0 0 0 flagL := by
    unfold Sl
    have hg : (hx e0 e1 b).get 0 = some ⟨flagCells, 0, false, e0, false⟩ := by
      rw [hx_get _ _ _ _ (by unfold NG; omega), hv_get, if_neg (by omega), if_pos rfl]
    rw [loads_of (blk_of hg rfl) (by simp [flagCells, flagL])]
    rfl
  have hN := hx_next e0 e1 b
  obtain ⟨H', hc⟩ := unitsBack hxo hvx hG (by unfold NG at hN; omega) (fun H' h => lives_orc e0 e1 b H' h)
  rcases callsOk 3 _ _ _ _ hc W W M [.agg us.toArray] hR (by simp only [VRs, VR]; exact ⟨_, [], rfl, ⟨us, rfl, hus⟩, rfl⟩) with ⟨_, h⟩ | ⟨u, h, _⟩
  · refine Calls.mono h ?_
    rintro e w' ⟨u, M', h1, h2, h3, _⟩
    have : u = .bool true := by simpa [VR] using h2
    subst this
    exact ⟨h1, h3.below⟩
  · exfalso
    have hb : ∃ c, Tryd.f3.body = some c := by
      cases hc : Tryd.f3.body with
      | none => have : Tryd.f3.body.isSome = true := rfl; rw [hc] at this; cases this
      | some c => exact ⟨c, rfl⟩
    obtain ⟨c, hc⟩ := hb
    rw [callFunc_run Tryd.func3 hc (by kernel_rfl)] at h
    cases h

theorem u8_bounds {n : Int} (h : (Lit.int .u8 n).wf = true) : 0 ≤ n ∧ n < 256 := by
  simp [Lit.wf, IntKind.min, IntKind.max, IntKind.signed, IntKind.bits] at h; omega
theorem u16_bounds {n : Int} (h : (Lit.int .u16 n).wf = true) : 0 ≤ n ∧ n < 65536 := by
  simp [Lit.wf, IntKind.min, IntKind.max, IntKind.signed, IntKind.bits] at h; omega

theorem open_U {H : Type} {enc : TypeId × Value → H} {W : World} {base : Nat} {v0 : Value} {d0 : DataW H} {p : List MemPlace} (hval : Value.okWide Tryd.prog W .any base 25 v0) (h : DataW.Trod enc Tryd.prog W 0 (fun _ => true) true 25 v0 d0 p) :
    ∃ (m0 m1 m2 m3 m4 : Nat) (a5 : Value) (fuel : Nat) (y5 : DataW H × List MemPlace), m0 < 256 ∧ m1 < 256 ∧ m2 < 256 ∧ m3 < 256 ∧ m4 < 65536 ∧ v0 = .agg #[.int .u8 m0, .int .u8 m1, .int .u8 m2, .int .u8 m3, .int .u16 m4, a5] ∧
      DataW.trod enc Tryd.prog W 0 (fun _ => true) true fuel 23 [a5] = some y5 := by
  obtain ⟨cs, rfl, hsz⟩ := okWide_struct Tryd.underlying25 hval
  obtain ⟨fuel, hf⟩ := h
  rw [cells25] at hsz
  obtain ⟨l⟩ := cs
  have hf' : DataW.trod enc Tryd.prog W 0 (fun _ => true) true fuel 25 l = some (d0, p) := hf
  clear hf hval
  have hsz' : l.length = 6 := hsz
  obtain ⟨a0, a1, a2, a3, a4, a5, rfl⟩ : ∃ a0 a1 a2 a3 a4 a5, l = [a0, a1, a2, a3, a4, a5] := by
    match l, hsz' with
    | [a0, a1, a2, a3, a4, a5], _ => exact ⟨a0, a1, a2, a3, a4, a5, rfl⟩
  generalize hl : [a0, a1, a2, a3, a4, a5] = l at *
  obtain ⟨xs, n, _, _, _, hlen, hel⟩ := DataW.trod_struct Tryd.underlying25 hf'
  have hlen' : xs.length = 6 := hlen
  have ex : ∀ i, i < 6 → ∃ y, xs[i]? = some y := fun i hi => ⟨xs[i], List.getElem?_eq_getElem (by omega)⟩
  have ey : ∀ i, (h : i < 6) → ((l.drop i).take 1) = [l[i]] := fun i hi => by
    rw [List.drop_eq_getElem_cons (by omega)]; rfl
  obtain ⟨y0, z0⟩ := ex 0 (by omega)
  obtain ⟨y1, z1⟩ := ex 1 (by omega)
  obtain ⟨y2, z2⟩ := ex 2 (by omega)
  obtain ⟨y3, z3⟩ := ex 3 (by omega)
  obtain ⟨y4, z4⟩ := ex 4 (by omega)
  obtain ⟨y5, z5⟩ := ex 5 (by omega)
  have q0 : DataW.trod enc Tryd.prog W 0 (fun _ => true) true n 5 ((l.drop 0).take (Tryd.prog.cellsOf 5)) = xs[0]? := hel 0 _ rfl
  have q1 : DataW.trod enc Tryd.prog W 0 (fun _ => true) true n 5 ((l.drop 1).take (Tryd.prog.cellsOf 5)) = xs[1]? := hel 1 _ rfl
  have q2 : DataW.trod enc Tryd.prog W 0 (fun _ => true) true n 5 ((l.drop 2).take (Tryd.prog.cellsOf 5)) = xs[2]? := hel 2 _ rfl
  have q3 : DataW.trod enc Tryd.prog W 0 (fun _ => true) true n 5 ((l.drop 3).take (Tryd.prog.cellsOf 5)) = xs[3]? := hel 3 _ rfl
  have q4 : DataW.trod enc Tryd.prog W 0 (fun _ => true) true n 22 ((l.drop 4).take (Tryd.prog.cellsOf 22)) = xs[4]? := hel 4 _ rfl
  have q5 : DataW.trod enc Tryd.prog W 0 (fun _ => true) true n 23 ((l.drop 5).take (Tryd.prog.cellsOf 23)) = xs[5]? := hel 5 _ rfl
  rw [z0] at q0
  rw [z1] at q1
  rw [z2] at q2
  rw [z3] at q3
  rw [z4] at q4
  rw [z5] at q5
  rw [cells5, ey 0 (by omega)] at q0
  rw [cells5, ey 1 (by omega)] at q1
  rw [cells5, ey 2 (by omega)] at q2
  rw [cells5, ey 3 (by omega)] at q3
  rw [cells22, ey 4 (by omega)] at q4
  rw [cells23, ey 5 (by omega)] at q5
  obtain ⟨n0, r0, _, w0⟩ := DataW.trod_int Tryd.underlying5 q0
  obtain ⟨n1, r1, _, w1⟩ := DataW.trod_int Tryd.underlying5 q1
  obtain ⟨n2, r2, _, w2⟩ := DataW.trod_int Tryd.underlying5 q2
  obtain ⟨n3, r3, _, w3⟩ := DataW.trod_int Tryd.underlying5 q3
  obtain ⟨n4, r4, _, w4⟩ := DataW.trod_int Tryd.underlying22 q4
  have u0 := u8_bounds w0
  have u1 := u8_bounds w1
  have u2 := u8_bounds w2
  have u3 := u8_bounds w3
  have u4 := u16_bounds w4
  obtain ⟨m0, rfl⟩ := Int.eq_ofNat_of_zero_le u0.1
  obtain ⟨m1, rfl⟩ := Int.eq_ofNat_of_zero_le u1.1
  obtain ⟨m2, rfl⟩ := Int.eq_ofNat_of_zero_le u2.1
  obtain ⟨m3, rfl⟩ := Int.eq_ofNat_of_zero_le u3.1
  obtain ⟨m4, rfl⟩ := Int.eq_ofNat_of_zero_le u4.1
  refine ⟨m0, m1, m2, m3, m4, l[5], n, y5, by omega, by omega, by omega, by omega, by omega, ?_, q5⟩
  subst hl
  simp only [List.cons.injEq, and_true, List.getElem_cons_zero, List.getElem_cons_succ] at r0 r1 r2 r3 r4
  subst r0 r1 r2 r3 r4
  rfl

theorem lifted (os : Os) (started : os.Started) (H : Type) (enc : TypeId × Value → H) :
    ReturnsInHanded {} Tryd.checked os 3 .any (fun w args => (Rows.unitsBackSpec.pre enc Tryd.prog Tryd.f3 [] false w args ∧ laidMetH Tryd.prog Rows.unitsBackRow.laid w) ∧ sizedMet enc Tryd.prog Tryd.f3 (OpenSpec.ofChange Rows.unitsBackSpec) false w args)
      (Rows.unitsBackSpec.post enc Tryd.prog Tryd.f3 false true false false) := by
  refine returnsInHanded_of_change_and (C := Tryd.checked) (X := fun w _ => laidMetH Tryd.prog Rows.unitsBackRow.laid w) (fun _ _ _ hh h => h.of_heap hh) own started (by kernel_rfl) Tryd.func3
    (ChangeSpec.witness_shaped (enc := enc) (C := Tryd.checked) (os := os) (X := fun w _ => laidMetH Tryd.prog Rows.unitsBackRow.laid w) false (World.doorLaid Tryd.prog 4000 os) #[.agg #[.int .u8 0, .int .u8 0, .int .u8 0, .int .u8 0, .int .u16 0, .slice none 0 0]] 8 rfl (World.shaped_of_RefB (by kernel_rfl) (by kernel_rfl)) (by kernel_rfl) (by kernel_rfl) (by kernel_rfl) 
      (laidMetH_of_parts3 (fuel := 8) (laidMet_of_run' 8 (by kernel_rfl) (by kernel_rfl)) (by kernel_rfl) (by kernel_rfl))) ?_
  intro W base args ds gs before hval0 hW _ _ hL _
  have hval : ∀ (j : Nat) t v, Tryd.f3.params[j]? = some t → args[j]? = some v → Value.okWide Tryd.prog W .any base t v := hval0
  have hW' := hW
  obtain ⟨p, q, hA0, hV, rfl, hfz, hnd⟩ := hW
  have hA : DataW.TrodAll enc Tryd.prog W 0 (fun _ => true) true Tryd.f3.params.toList args.toList ds p := hA0
  have hAk := hA
  rw [Tryd.params3] at hA hval
  obtain ⟨v0, d0, rfl, rfl, h0⟩ := trodAll_one hA
  obtain ⟨rfl, rfl⟩ := trodVars_none hV
  -- what is to be shown behind the call
  suffices hcall : Calls Tryd.prog 3 #[v0] W fun e w' => e = .returned (.bool true) ∧ Below W.heap.size W w' by
    refine hcall.mono fun e w' ⟨he, hb⟩ => ?_
    subst he
    refine ⟨_, rfl, [d0], [], p ++ [], [], p, [], hW', trodAll_mk1 (shut_bool Tryd.underlying4 _), ?_, rfl, hb.frame _, fun h => by cases h⟩
    have hold : ∀ y ∈ p, (fun b => decide (b < W.heap.size)) y.block = true := fun y hy => by
      have := hW'.lt y (by simpa using hy)
      simpa using this
    have h1 := DataW.TrodAll.respare (spare' := fun b => decide (b < W.heap.size)) kids full (by rw [Tryd.params3]; decide) hAk hold
    rw [Tryd.params3] at h1
    obtain ⟨v1, d1, e1, e2, h2⟩ := trodAll_one h1
    cases e1
    cases e2
    rw [Tryd.params3]
    refine trodAll_mk1 ?_
    obtain ⟨n, hn⟩ := h2
    exact ⟨n, DataW.trod_carry n _ _ _ hn (fun y hy => hb.same (DataW.trod_lt n _ _ _ hn y hy))⟩
  obtain ⟨c0, e0, f0, c1, e1, f1, k1, k2, k3, k4⟩ := of_laid hL
  obtain ⟨m0, m1, m2, m3, m4, a5, fuel, y5, u0, u1, u2, u3, u4, rfl, q5⟩ := open_U (hval 0 25 v0 rfl rfl) h0
  have fin : ∀ (b : Option Blk) (X : Option Am.Loc) (v : V) (L : List Nat), Rel W (Mb c0.size c1.size X) (hx e0 e1 b) W → (∀ y ∈ L, y < 256) → L.length < 2 ^ 63 → By0 (hx e0 e1 b) v L → VR (Mb c0.size c1.size X) v a5 →
      Calls Tryd.prog 3 #[.agg #[.int .u8 m0, .int .u8 m1, .int .u8 m2, .int .u8 m3, .int .u16 m4, a5]] W fun e w' => e = .returned (.bool true) ∧ Below W.heap.size W w' := by
    intro b X v L hR hL1 hL2 hby hvr
    exact called hR (x := ⟨m0, m1, m2, m3, m4, L⟩) ⟨by show m0 < 256; omega, by show m1 < 256; omega, by show m2 < 256; omega, by show m3 < 256; omega, by show m4 < 65536; omega, hL1, hL2⟩ hby
      (us := [.int .u8 m0, .int .u8 m1, .int .u8 m2, .int .u8 m3, .int .u16 m4, a5]) (by simp only [Xu.cells, VRs, VR]; exact ⟨_, _, rfl, rfl, _, _, rfl, rfl, _, _, rfl, rfl, _, _, rfl, rfl, _, _, rfl, rfl, _, _, rfl, hvr, rfl⟩)
  rcases open_ints Tryd.underlying23 Tryd.underlying5 cells5 q5 with ⟨r5, _⟩ | ⟨a, len, cap, zs, r5, _, hlc, hcm, hzl, _, hcell, hwf⟩
  · simp at r5
    subst r5
    exact fin none none (.s (.slice none 0 0)) [] (start k1 k2 k3 k4 none none (.inl ⟨rfl, rfl⟩)) (by simp) (by simp) (.inl (.inl ⟨rfl, rfl⟩)) (by simp [VR])
  · simp at r5
    subst r5
    by_cases hl0 : len = 0
    · subst hl0
      exact fin none none (.sl 999 0 0 0 cap true 1) [] (start k1 k2 k3 k4 none none (.inl ⟨rfl, rfl⟩)) (by simp) (by simp) (.inr ⟨rfl, 999, 0, 0, cap, true, rfl⟩)
        (by simp only [VR]; exact ⟨a, cap, ⟨0, 0, 0, 1⟩, rfl, fun _ => rfl, by omega, rfl, by decide, fun h => by cases h⟩)
    · have hzl' : len ≤ zs.length := by rw [hzl]; simp; omega
      have hc0 := hcell 0 (by omega)
      have hspot : a.spot = none ∧ ∃ c e fz, W.heap[a.block]? = some (.cells c e fz) := by
        unfold World.cell? at hc0
        rw [show a.add 0 = a by simp [Addr.add]] at hc0
        split at hc0
        · rename_i c e fz hw
          split at hc0
          · cases hc0
          · rename_i hs
            exact ⟨by cases h : a.spot with | none => rfl | some s => rw [h] at hs; exact absurd rfl hs, c, e, fz, hw⟩
        · cases hc0
      obtain ⟨hsp, c, e, fz, hw⟩ := hspot
      have hci : ∀ i, i < len → c[a.off + i]? = some (.int .u8 (zs.getD i 0)) := by
        intro i hi
        have := hcell i (by omega)
        unfold World.cell? at this
        have ha : a.add i = ⟨a.block, a.off + i, none⟩ := by
          unfold Addr.add
          split
          · rename_i h0
            subst h0
            obtain ⟨ab, ao, asp⟩ := a
            simp only at hsp ⊢
            rw [hsp]; rfl
          · rfl
        rw [ha] at this
        dsimp only at this
        rw [hw] at this
        simpa using this
      have hbd : ∀ i, i < len → 0 ≤ zs.getD i 0 ∧ zs.getD i 0 < 256 := by
        intro i hi
        have hm : zs.getD i 0 ∈ zs := by
          rw [List.getD_eq_getElem?_getD, List.getElem?_eq_getElem (by omega)]
          exact List.getElem_mem _
        exact u8_bounds (hwf _ hm)
      have hL : ((List.range len).map fun i => (zs.getD i 0).toNat).length = len := by simp
      have hLb : ∀ y ∈ (List.range len).map fun i => (zs.getD i 0).toNat, y < 256 := by
        intro y hy
        obtain ⟨i, hi, rfl⟩ := List.mem_map.1 hy
        have := hbd i (by simpa using hi)
        omega
      have hcl : a.off + len ≤ c.size := by
        have := hci (len - 1) (by omega)
        have := (Array.getElem?_eq_some_iff.1 this).1
        omega
      have hmx : len < 2 ^ 63 := by
        have : len ≤ maxLen := by omega
        unfold maxLen at this
        omega
      refine fin (some ⟨bs ((List.range len).map fun i => (zs.getD i 0).toNat), 0, false, e, false⟩) (some ⟨a.block, a.off, c.size, 0⟩) (.sl NG 0 0 len cap true 1) ((List.range len).map fun i => (zs.getD i 0).toNat)
        (start k1 k2 k3 k4 _ _ (.inr ⟨_, _, c, fz, rfl, rfl, rfl, rfl, rfl, rfl, hw, rfl, by simpa [bs] using hcl, ?_⟩)) hLb (by rw [hL]; exact hmx) (.inl (.inr ⟨NG, 0, 0, cap, true, by rw [hL], Nat.lt_succ_self _, ?_⟩)) ?_
      · intro i v hi
        rw [bs, List.getElem?_map, List.getElem?_map] at hi
        by_cases hil : i < len
        · rw [List.getElem?_range hil] at hi
          simp only [Option.map_some, Option.some.injEq] at hi
          subst hi
          have hb := hbd i hil
          exact ⟨_, rfl, by rw [hci i hil, Int.toNat_of_nonneg hb.1]⟩
        · rw [List.getElem?_eq_none (by simp; omega)] at hi
          cases hi
      · unfold Sl
        rw [loads_of (blk_of (hx_at e0 e1 _) rfl) (by simp [bs])]
        simp only [List.drop_zero]
        rw [List.take_of_length_le (by simp [bs])]
      · simp only [VR]
        refine ⟨a, cap, ⟨a.block, a.off, c.size, 0⟩, rfl, fun _ => rfl, hlc, rfl, Nat.le_refl _, fun _ => ⟨.inr ?_, fun h => by cases h⟩⟩
        obtain ⟨ab, ao, asp⟩ := a
        simp only at hsp ⊢
        rw [hsp]; rfl

theorem unitsBack_holds : Rows.UnitsBackSaid :=
  OpenClaim.holds_of_wide 3 Tryd.f3 rfl rfl rfl rfl rfl rfl rfl ⟨rfl, rfl, rfl, rfl, rfl⟩ rfl rfl rfl rfl rfl (by kernel_rfl) Tryd.func3 (by kernel_rfl)
    (of_decide_eq_true (by kernel_rfl)) (by unfold Func.isWrapper; first | (rw [if_pos (by decide +kernel)]; kernel_rfl) | (rw [if_neg (by decide +kernel)]; exact ⟨rfl, rfl⟩))
    (fun os started H enc _ => lifted os started H enc)

theorem unitsBack_card_holds : Rows.UnitsBackCardSaid :=
  Claim7.holds_tied_plain_at .later [] [.data, .data, .data, .widerDeep] true (true, "52d4c83c776398500dc04c185ab6fca045f0014d5885eb25991fe258e9e68443") false
    unitsBack_holds (fun _ h => by cases h) (by kernel_rfl) (fun _ h => by cases h) unitsBack_row_tie rfl ⟨rfl, rfl⟩ (by kernel_rfl) rfl
    (fun f fn hf hfn => by
      obtain rfl : f = 3 := Option.some.inj ((show Tryd.prog.funcNamed "pointcode/pointcodelaw04.UnitsBack" = some 3 by kernel_rfl).symm.trans hf) |>.symm
      obtain rfl : fn = Tryd.f3 := (Option.some.inj (Tryd.func3.symm.trans hfn)).symm
      exact ⟨by kernel_rfl, fun j t ht => by
        rw [Tryd.params3] at ht
        have h3 : t = 25 := by
          rcases j with _ | j
          · simpa using ht.symm
          · simp at ht
        subst h3
        exact (show Tryd.prog.wantsStandIn 25 = false by kernel_rfl)⟩)
    (by kernel_rfl)
#print axioms unitsBack_card_holds
end Go.Proofs.YtnicmcdnpeimoaaDoor
