/-
  Each operation of the model does on memory what the abstract machine says of it, fifth part: append, put together.
-/
import Derived.Test.YtnicmcdnpeimoaaDoorAm6
set_option linter.unusedVariables false
set_option linter.unusedSimpArgs false
namespace Go.Am
open Go.RowKit

variable {P : Program} {w0 w : World} {M : Mp} {H : Hp}

theorem grown_size (z : Value) (i : TypeInfo) (hzs : z.cells.size = i.size) (olds us : List Value) (len k c : Nat) (ho : olds.length = len * i.size) (hu : us.length = k * i.size) (hc : len + k ≤ c) :
    (olds.toArray ++ us.toArray ++ Builtin.zeroCells z.cells (c - (len + k))).size = c * i.size := by
  simp only [Array.size_append, List.size_toArray, ho, hu, Builtin.zeroCells, Array.size_map, Array.size_range, hzs]
  rw [← Nat.add_mul, ← Nat.add_mul]
  congr 1; omega

theorem grown_get (olds us : List Value) (r : Array Value) (j : Nat) (h : j < (olds ++ us).length) : (olds.toArray ++ us.toArray ++ r)[j]? = (olds ++ us)[j]? := by
  rw [Array.getElem?_append_left (by simpa using h)]
  simp

theorem append_sound (hR : Rel w0 M H w) {ts : Array TypeId} {ty : TypeId} {s x v : V} {u1 u2 : Value} {H' : Hp} (hs : VR M s u1) (hx : VR M x u2) (hf : vappend P H ts s x = some (v, H')) :
    ∃ r w' M', (Builtin.append_ ts ty #[u1, u2]).run P w = .ok r w' ∧ VR M' v r ∧ Rel w0 M' H' w' ∧ Ext M M' := by
  unfold vappend at hf
  cases ht0 : ts[0]? with
  | none => rw [ht0] at hf; cases hf
  | some t0 =>
  rw [ht0] at hf
  simp only [Option.bind_some] at hf
  cases hu : P.underlying t0 with
  | none => rw [hu] at hf; cases hf
  | some d =>
  rw [hu] at hf
  cases d <;> try (cases hf; done)
  rename_i e
  dsimp only at hf
  obtain ⟨i, hi, hfa⟩ := obind hf
  clear hf
  obtain ⟨z, hz, hfb⟩ := obind hfa
  clear hfa
  obtain ⟨xt, hxt, hf⟩ := obind hfb
  clear hfb
  obtain ⟨t1, ht1, hu1⟩ := obind hxt
  split at hf
  · cases hf
  · rename_i hzz
    have hzs : z.cells.size = i.size := by omega
    have hi0 : i.size ≠ 0 := by omega
    obtain ⟨⟨k, new⟩, hn, hf1⟩ := obind hf
    clear hf hxt
    dsimp only at hf1
    obtain ⟨us, g1, g2, g3, g4⟩ := new_sound hR hi hz hzs hx hn
    have hN : NewRun P w i z xt u2 k us := ⟨g3, g4⟩
    have hnl : new.length = k * i.size := by rw [← g2, VRs_length g1]
    -- the new array, when the append makes one
    have grow : ∀ (olds : List Value) (old : List V) (base : Option Addr) (len cap : Nat), VRs M old olds → olds.length = len * i.size → cap < len + k → (len + k) * i.bytes ≤ 2 ^ 47 → len + k < 2 ^ 62 →
        (Builtin.firstCells i.size len (.slice base len cap)).run P w.drew = .ok olds.toArray w.drew →
        ∃ c arr, len + k ≤ c ∧ (Builtin.append_ ts ty #[.slice base len cap, u2]).run P w = .ok (.slice (some ⟨w.heap.size, 0, none⟩) (len + k) c) (w.drew.alloc (.cells arr e)) ∧
          arr.size = c * i.size ∧ (∀ (j : Nat) (y : V), (old ++ new)[j]? = some y → ∃ q, arr[j]? = some q ∧ VR M y q) ∧ (old ++ new).length ≤ arr.size := by
      intro olds old base len cap ho hol hlt h47 h62 hfo
      obtain ⟨c, hc, hrun⟩ := append_out (ty := ty) ht0 ht1 hu hu1 hi hz hzs hN g2 hlt h47 h62 hfo
      have hall := VRs_append ho g1
      have hsz := grown_size z i hzs olds us len k c hol g2 hc
      refine ⟨c, _, hc, hrun, hsz, ?_, ?_⟩
      · intro j y hy
        obtain ⟨q, q1, q2⟩ := VRs_get hall hy
        refine ⟨q, ?_, q2⟩
        rw [grown_get]
        · exact q1
        · exact (List.getElem?_eq_some_iff.1 q1).1
      · rw [hsz, ← VRs_length hall, List.length_append, hol, g2, ← Nat.add_mul]
        exact Nat.mul_le_mul_right _ hc
    split at hf1
    · -- the nil slice
      simp only [VR] at hs; subst hs
      split at hf1
      · rename_i hk
        cases hf1
        subst hk
        refine ⟨.slice none 0 0, w, M, ?_, VR_s _, hR, Ext.refl _⟩
        exact append_in (base := none) (len := 0) (cap := 0) ht0 ht1 hu hu1 hi hz hzs hN g2 (Nat.le_refl _) rfl
      · split at hf1
        · rename_i hk hb
          cases hf1
          obtain ⟨c, arr, a1, a2, a3, a4, a5⟩ := grow [] [] none 0 0 (by simp [VRs]) (by simp) (by omega) (by simpa using hb.1) (by simpa using hb.2.1) rfl
          obtain ⟨r1, r2⟩ := hR.drew.alloc new arr e (by simpa using a5) (fun j y hy => a4 j y (by simpa using hy))
          refine ⟨_, _, _, a2, ?_, r1, r2⟩
          simp only [VR, Nat.zero_add]
          exact ⟨_, c, _, rfl, by simp, by omega, upd_same _ _ _, Nat.le_refl _, fun _ => ⟨.inr rfl, fun _ => by simp only [a3]; omega⟩⟩
        · cases hf1
    · rename_i n g off len cap ex sz
      split at hf1
      · cases hf1
      · rename_i hsz
        have hsz : sz = i.size := by omega
        subst hsz
        obtain ⟨b, hb, hf2⟩ := obind hf1
        clear hf1
        obtain ⟨hbg, hbs⟩ := blk_some hb
        simp only [VR] at hs
        obtain ⟨a, c', L, rfl, e1, e2, e3, e4, e5⟩ := hs
        obtain ⟨L2, arr0, et, fz, q1, q2, q3, q4, q5, q6, q7⟩ := hR.blk n b hbg
        rw [e3] at q1; cases q1
        have hLg : L.g = g := q2.trans hbs
        obtain ⟨e6, e7⟩ := e5 hLg
        -- what stands there already
        have hold : ∀ old, loads H n g off (len * i.size) = some old → ∃ olds, VRs M old olds ∧ olds.length = len * i.size ∧ (Builtin.firstCells i.size len (.slice (some a) len c')).run P w.drew = .ok olds.toArray w.drew := by
          intro old ho
          obtain ⟨olds, o1, o2, o3, o4⟩ := first_sound (P := P) hR (x := .sl n g off len cap ex i.size) (u := .slice (some a) len c') (sz := i.size) (k := len) (new := old) (by simp only [VR]; exact ⟨a, c', L, rfl, e1, e2, e3, e4, e5⟩) rfl (by simp only [Am.firstCells, if_true]; exact ho)
          exact ⟨olds, o1, o2, o4 w.drew (fun _ => rfl)⟩
        -- an append within what the slice has
        have inplace : ∀ H'', stores H n g (off + len * i.size) new = some H'' → len + k ≤ c' →
            ∃ w', (Builtin.append_ ts ty #[.slice (some a) len c', u2]).run P w = .ok (.slice (some a) (len + k) c') w' ∧ Rel w0 M H'' w' := by
          intro H'' hst hle
          obtain ⟨L3, s1, s2, s3, s4⟩ := hR.stores P hst g1
          rw [e3] at s1; cases s1
          by_cases hk : k = 0
          · have hus : us = [] := by
              rw [hk, Nat.zero_mul] at g2
              exact List.length_eq_zero_iff.1 g2
            refine ⟨_, append_in (base := some a) ht0 ht1 hu hu1 hi hz hzs hN g2 hle ?_, s3⟩
            rw [hus]; rfl
          · refine ⟨_, append_in (base := some a) ht0 ht1 hu hu1 hi hz hzs hN g2 hle ?_, s3⟩
            have ha : a = ⟨L.b, L.base + off, none⟩ := by
              rcases e6 with e6 | e6
              · omega
              · exact e6
            rw [ha]
            simp only [add_none]
            rw [Nat.add_assoc]
            exact s4
        split at hf2
        · rename_i hex
          have hcc := e1 hex
          split at hf2
          · rename_i hle
            obtain ⟨H'', hst, hf3⟩ := obind hf2
            cases hf3
            obtain ⟨w', p1, p2⟩ := inplace _ hst (by omega)
            refine ⟨_, w', M, p1, ?_, p2, Ext.refl _⟩
            simp only [VR]
            exact ⟨a, c', L, rfl, e1, by omega, e3, e4, e5⟩
          · rename_i hle
            obtain ⟨old, ho, hf3⟩ := obind hf2
            split at hf3
            · rename_i hbd
              cases hf3
              obtain ⟨olds, o1, o2, o3⟩ := hold old ho
              obtain ⟨c, arr, a1, a2, a3, a4, a5⟩ := grow olds old (some a) len c' o1 o2 (by omega) hbd.1 hbd.2 o3
              obtain ⟨r1, r2⟩ := hR.drew.alloc (old ++ new) arr e a5 a4
              refine ⟨_, _, _, a2, ?_, r1, r2⟩
              simp only [VR]
              exact ⟨_, c, _, rfl, by simp, by omega, upd_same _ _ _, Nat.le_refl _, fun _ => ⟨.inr rfl, fun _ => by simp only [a3]; omega⟩⟩
            · cases hf3
        · rename_i hex
          have hex : ex = false := by simpa using hex
          have hend := e7 hex
          split at hf2
          · rename_i hle
            obtain ⟨H'', hst, hf3⟩ := obind hf2
            cases hf3
            have hkc : len + k ≤ c' := by
              have : (len + k) * i.size ≤ c' * i.size := by omega
              exact Nat.le_of_mul_le_mul_right this (by omega)
            obtain ⟨w', p1, p2⟩ := inplace _ hst hkc
            refine ⟨_, w', M, p1, ?_, p2, Ext.refl _⟩
            simp only [VR]
            exact ⟨a, c', L, rfl, by simp, by omega, e3, e4, fun q => ⟨(e5 q).1, fun _ => (e5 q).2 hex⟩⟩
          · split at hf2
            · rename_i hnle hbd
              obtain ⟨b1, b2, b3, b4, b5, b6⟩ := hbd
              cases hf2
              obtain ⟨q8, rfl⟩ := q7 b2
              have hete : et = e := (hR.kind n b L arr0 et _ hbg e3 q3).1.trans b6
              subst hete
              have hlo : loads H n g off (len * i.size) = some (b.cells.drop off) := by
                unfold Am.loads
                rw [hb]
                simp only [Option.bind_some]
                rw [if_pos (by omega), List.take_of_length_le (by simp; omega)]
              by_cases hfit : len + k ≤ c'
              · -- there is room
                have ha : a = ⟨L.b, L.base + off, none⟩ := by
                  rcases e6 with e6 | e6
                  · exfalso
                    apply hnle
                    have h1 : k = 0 := by omega
                    subst h1
                    simpa using Nat.le_of_eq b1
                  · exact e6
                have hkc : (len + k) * i.size ≤ c' * i.size := Nat.mul_le_mul_right _ hfit
                have hdist : (len + k) * i.size = len * i.size + k * i.size := Nat.add_mul _ _ _
                have hone : ∀ u ∈ us, u.oneCell' = true := by
                  intro u hu
                  obtain ⟨j, hj, rfl⟩ := List.mem_iff_getElem.1 hu
                  have hj' : j < new.length := by omega
                  obtain ⟨u', h1, h2⟩ := VRs_get g1 (List.getElem?_eq_getElem hj')
                  rw [List.getElem?_eq_getElem hj] at h1
                  cases h1
                  exact VR_one h2 (List.all_eq_true.1 b3 _ (List.getElem_mem hj'))
                have hrun := run_storeCells_row P us w L.b (L.base + off + len * i.size) 0 arr0 et q3 (by omega) hone
                have happ := append_in (ty := ty) (base := some a) (w' := setCells w L.b (L.base + off + len * i.size) us) ht0 ht1 hu hu1 hi hz hzs hN g2 hfit (by rw [ha]; simp only [add_none]; simpa using hrun)
                have hM : Ext M (upd M n ⟨L.b, L.base + off, L.msz, g + 1⟩) := Ext_upd e3 (.inl (by simp only; omega))
                refine ⟨_, _, upd M n ⟨L.b, L.base + off, L.msz, g + 1⟩, happ, ?_, ?_, hM⟩
                · simp only [VR]
                  exact ⟨a, c', _, rfl, by simp, hfit, upd_same _ _ _, Nat.le_refl _, fun _ => ⟨.inr (by rw [ha]; rfl), fun _ => by simp only; omega⟩⟩
                · refine hR.put n ⟨b.cells.drop off ++ new, g + 1, true, et, b.z && off == 0⟩ ⟨L.b, L.base + off, L.msz, g + 1⟩ _ (spliceA arr0 (L.base + off + len * i.size) us) (0, 0) hM (Hp.get_set_same _ _ _) (fun m hm => Hp.get_set_other _ _ _ _ hm) (by simp [Hp.set]) (by simpa [Hp.set] using next_gt hR hbg)
                    (heap_setCells _ _ _ _ _ _ _ q3) (fun _ => rfl) (fun q => by simp only [Bool.and_eq_true, beq_iff_eq] at q; have := (hR.kind n b L arr0 et _ hbg e3 q3).2 q.1; simp only; omega) (by rw [spliceA_size]; exact q4) rfl (by simp only [List.length_append, List.length_drop, hnl]; omega) ?_
                    (fun m hm _ => heap_setCells_other _ _ _ _ _ hm) q8 (.inl ⟨b, L, hbg, b2, e3, rfl⟩) (Below_setCells _ _ _ _ _ _ hR.below q8)
                  intro j y hy
                  dsimp only at hy ⊢
                  rw [spliceA_get _ _ _ _ (by omega)]
                  by_cases hj : j < (b.cells.drop off).length
                  · rw [List.getElem?_append_left hj] at hy
                    simp only [List.length_drop] at hj
                    rw [List.getElem?_drop] at hy
                    obtain ⟨q, r1, r2⟩ := q6 _ _ hy
                    rw [if_neg (by omega)]
                    exact ⟨q, by rw [← r1]; congr 1; omega, VR.ext hM _ _ r2⟩
                  · rw [List.getElem?_append_right (by omega)] at hy
                    simp only [List.length_drop] at hj hy
                    obtain ⟨q, r1, r2⟩ := VRs_get g1 hy
                    have hlt : j - (b.cells.length - off) < us.length := (List.getElem?_eq_some_iff.1 r1).1
                    rw [if_pos (by omega)]
                    exact ⟨q, by rw [← r1]; congr 1; omega, VR.ext hM _ _ r2⟩
              · -- a new array
                obtain ⟨olds, o1, o2, o3⟩ := hold _ hlo
                obtain ⟨c, arr, a1, a2, a3, a4, a5⟩ := grow olds _ (some a) len c' o1 o2 (by omega) b4 b5 o3
                have hM : Ext M (upd M n ⟨w.heap.size, 0, arr.size, g + 1⟩) := Ext_upd e3 (.inl (by simp only; omega))
                refine ⟨_, _, upd M n ⟨w.heap.size, 0, arr.size, g + 1⟩, a2, ?_, ?_, hM⟩
                · simp only [VR]
                  exact ⟨_, c, _, rfl, by simp, a1, upd_same _ _ _, Nat.le_refl _, fun _ => ⟨.inr rfl, fun _ => by simp only [a3]; omega⟩⟩
                · refine hR.drew.put n ⟨b.cells.drop off ++ new, g + 1, true, et, b.z && off == 0⟩ ⟨w.heap.size, 0, arr.size, g + 1⟩ _ arr (0, 0) hM (Hp.get_set_same _ _ _) (fun m hm => Hp.get_set_other _ _ _ _ hm) (by simp [Hp.set]) (by simpa [Hp.set] using next_gt hR hbg)
                    (heap_alloc_new w.drew _) (fun _ => rfl) (fun _ => rfl) rfl rfl (by simpa using a5) ?_ (fun m hm hlt => Below.heap_alloc _ _ _ hlt) hR.below.size (.inr (Nat.le_refl _)) (hR.drew.below.alloc hR.below.size _)
                  intro j y hy
                  obtain ⟨q, r1, r2⟩ := a4 j y hy
                  exact ⟨q, by simpa using r1, VR.ext hM _ _ r2⟩
            · cases hf2
    · cases hf1

end Go.Am
