/-
  Each operation of the model does on memory what the abstract machine says of it, third part: slicing, make, literals, built-ins.
-/
import Derived.Test.YtnicmcdnpeimoaaDoorAm4
set_option linter.unusedVariables false
set_option linter.unusedSimpArgs false
namespace Go.Am
open Go.RowKit

variable {P : Program} {w0 w : World} {M : Mp} {H : Hp}

/-- The slice that is left of a slice, in the relation. -/
theorem VR_sliced {n g off l h m c' : Nat} {ex ex' : Bool} {sz cap2 : Nat} {a : Addr} {L : Loc} (hL : M n = some L) (hg : g ≤ L.g)
    (hc : L.g = g → (c' = 0 ∨ a = ⟨L.b, L.base + off, none⟩) ∧ (ex = false → L.base + off + c' * sz = L.msz))
    (hlh : l ≤ h) (hhm : h ≤ m) (hmc : m ≤ c') (hex : ex' = true → cap2 = m - l) (hex2 : ex' = false → m = c' ∧ ex = false) :
    VR M (.sl n g (off + l * sz) (h - l) cap2 ex' sz) (.slice (if m = l then some a else (some a).map (·.add (l * sz))) (h - l) (m - l)) := by
  simp only [VR]
  by_cases e : m = l
  · subst e
    refine ⟨a, 0, L, by simp, fun q => by rw [hex q]; omega, by omega, hL, hg, fun q => ⟨.inl rfl, fun q2 => ?_⟩⟩
    obtain ⟨q3, q4⟩ := hex2 q2
    have := (hc q).2 q4
    subst q3
    omega
  · refine ⟨a.add (l * sz), m - l, L, by simp [e], fun q => (hex q).symm, by omega, hL, hg, fun q => ⟨.inr ?_, fun q2 => ?_⟩⟩
    · rcases (hc q).1 with q1 | q1
      · omega
      · rw [q1, add_none, Nat.add_assoc]
    · obtain ⟨q3, q4⟩ := hex2 q2
      have q5 := (hc q).2 q4
      subst q3
      have : (m - l) * sz + l * sz = m * sz := by rw [← Nat.add_mul]; congr 1; omega
      omega

theorem slice_sound (hR : Rel w0 M H w) {t : TypeId} {x v : V} {u : Value} {lo hi mx : Option V} {ulo uhi umx : Option Value} (hx : VR M x u) (hlo : VRo M lo ulo) (hhi : VRo M hi uhi) (hmx : VRo M mx umx)
    (hf : vslice P H t x lo hi mx = some v) : ∃ y, (Instr.sliceAt t u ulo uhi umx).run P w = .ok y w ∧ VR M v y := by
  unfold vslice at hf
  split at hf
  · rename_i s hu
    split at hf
    · cases hf
    · rename_i hmn
      obtain ⟨l, h1, hf⟩ := obind hf
      obtain ⟨h, h2, hf⟩ := obind hf
      split at hf
      · rename_i hb
        cases hf
        simp only [VR] at hx; subst hx
        refine ⟨_, ?_, VR_s _⟩
        cases mx with
        | some m => simp at hmn
        | none =>
          simp only [VRo] at hmx; subst hmx
          unfold Instr.sliceAt Instr.slice
          simp only [Sem.run_bind, run_under hu, Result.andThen_ok, Option.isSome_none, Bool.false_eq_true, if_false, Sem.run_pure]
          rw [sliceBounds_run false hlo hhi (show VRo M none none from rfl) h1 h2 (show bound none s.size = some s.size from rfl) hb.1 hb.2 (Nat.le_refl _) (by simp)]
          simp only [Result.andThen_ok, Sem.run_pure]
      · cases hf
  · rename_i e n g off len cap ex sz hu
    obtain ⟨k, hk, hf⟩ := obind hf
    split at hf
    · cases hf
    · rename_i hks
      have hks : k = sz := by omega
      subst hks
      obtain ⟨l, h1, hf⟩ := obind hf
      obtain ⟨h, h2, hf⟩ := obind hf
      simp only [VR] at hx
      obtain ⟨a, c', L, rfl, e1, e2, e3, e4, e5⟩ := hx
      have go : ∀ (m : Nat), bound mx c' = some m → l ≤ h → h ≤ m → m ≤ c' → (mx.isSome = true → hi.isSome = true) →
          (Instr.sliceAt t (.slice (some a) len c') ulo uhi umx).run P w = .ok (.slice (if m = l then some a else (some a).map (·.add (l * k))) (h - l) (m - l)) w := by
        intro m hm q1 q2 q3 q4
        unfold Instr.sliceAt Instr.slice
        simp only [Sem.run_bind, run_under hu, Result.andThen_ok]
        rw [sliceBounds_run true hlo hhi hmx h1 h2 hm q1 q2 q3 q4]
        simp only [Result.andThen_ok, Sem.run_bind, sizeOf_run hk, Sem.run_pure]
      cases mx with
      | some mv =>
        obtain ⟨m, h3, hf⟩ := obind hf
        split at hf
        · rename_i hb
          obtain ⟨b1, b2, b3, b4⟩ := hb
          cases hf
          have hmc : m ≤ c' := by
            rcases b4 with b4 | ⟨b4, b5⟩
            · omega
            · rw [e1 b4]; exact b5
          have h3' : bound (some mv) c' = some m := h3
          exact ⟨_, go m h3' b2 b3 hmc (fun _ => b1), VR_sliced e3 e4 e5 b2 b3 hmc (fun _ => rfl) (fun q => by simp at q)⟩
        · cases hf
      | none =>
        have hm : bound (none : Option V) c' = some c' := rfl
        dsimp only at hf
        split at hf
        · rename_i hb
          cases hf
          exact ⟨_, go c' hm hb.1 (by omega) (Nat.le_refl _) (by simp), VR_sliced e3 e4 e5 hb.1 (by omega) (Nat.le_refl _) (fun q => by rw [e1 q]) (fun q => ⟨rfl, q⟩)⟩
        · split at hf
          · rename_i hb
            obtain ⟨b1, b2, b3⟩ := hb
            cases hf
            have := e1 b2
            exact ⟨_, go c' hm b1 (by omega) (Nat.le_refl _) (by simp), VR_sliced e3 e4 e5 b1 (by omega) (Nat.le_refl _) (fun q => by rw [e1 q]) (fun q => ⟨rfl, q⟩)⟩
          · obtain ⟨b, hb, hf⟩ := obind hf
            split at hf
            · rename_i hc
              obtain ⟨b1, b2, b3, b4⟩ := hc
              cases hf
              obtain ⟨hb, hbg⟩ := blk_some hb
              obtain ⟨L2, c, e, fz, q1, q2, q3, q4, q5, q6, q7⟩ := hR.blk n b hb
              rw [e3] at q1; cases q1
              have q8 := (e5 (by omega)).2 b2
              have hhc : h ≤ c' := by
                have : h * k ≤ c' * k := by omega
                exact Nat.le_of_mul_le_mul_right this b3
              exact ⟨_, go c' hm b1 hhc (Nat.le_refl _) (by simp), VR_sliced e3 e4 e5 b1 hhc (Nat.le_refl _) (fun q => by rw [e1 q]) (fun q => ⟨rfl, q⟩)⟩
            · cases hf
  · rename_i e hu
    obtain ⟨k, hk, hf⟩ := obind hf
    obtain ⟨l, h1, hf⟩ := obind hf
    obtain ⟨h, h2, hf⟩ := obind hf
    obtain ⟨m, h3, hf⟩ := obind hf
    split at hf
    · rename_i hb
      obtain ⟨b1, b2, b3, b4⟩ := hb
      cases hf
      subst b1 b2 b3
      simp only [VR] at hx; subst hx
      unfold Instr.sliceAt Instr.slice
      simp only [Sem.run_bind, run_under hu, Result.andThen_ok]
      rw [sliceBounds_run true hlo hhi hmx h1 h2 h3 (Nat.le_refl _) (Nat.le_refl _) (Nat.le_refl _) b4]
      simp only [Result.andThen_ok, Sem.run_bind, sizeOf_run hk, Sem.run_pure]
      exact ⟨_, rfl, VR_s _⟩
    · cases hf
  · rename_i len e n g off hu
    obtain ⟨k, hk, hf⟩ := obind hf
    obtain ⟨l, h1, hf⟩ := obind hf
    obtain ⟨h, h2, hf⟩ := obind hf
    obtain ⟨m, h3, hf⟩ := obind hf
    split at hf
    · rename_i hb
      obtain ⟨b1, b2, b3, b4⟩ := hb
      cases hf
      simp only [VR] at hx
      obtain ⟨a, L, rfl, e3, e4, e5⟩ := hx
      refine ⟨.slice (if m = l then some a else (some a).map (·.add (l * k))) (h - l) (m - l), ?_, VR_sliced (c' := m) (ex := true) e3 e4 (fun q => ⟨.inr (e5 q), fun q => by simp at q⟩) b1 b2 (Nat.le_refl _) (fun _ => rfl) (fun q => by simp at q)⟩
      unfold Instr.sliceAt Instr.sureAddr
      simp only [Sem.run_bind, run_under hu, Result.andThen_ok, Sem.run_pure]
      rw [sliceBounds_run false hlo hhi hmx h1 h2 h3 b1 b2 b3 b4]
      simp only [Result.andThen_ok, Sem.run_bind, sizeOf_run hk, Sem.run_pure]
      split <;> rfl
    · cases hf
  · cases hf

theorem zeroCells_get (z : List Value) (n i : Nat) (v : V) (h : (zeroCells z n)[i]? = some v) : i < n * z.length ∧ v = .s (z.getD (i % z.length) default) := by
  unfold zeroCells at h
  rw [List.getElem?_map] at h
  by_cases hi : i < n * z.length
  · rw [List.getElem?_range hi] at h
    simp at h
    exact ⟨hi, by rw [← h]; rfl⟩
  · rw [List.getElem?_eq_none (by simp; omega)] at h
    cases h

theorem zeroCells_length (z : List Value) (n : Nat) : (zeroCells z n).length = n * z.length := by simp [zeroCells]

theorem makeSlice_sound (hR : Rel w0 M H w) {t : TypeId} {x y v : V} {u1 u2 : Value} {H' : Hp} (hx : VR M x u1) (hy : VR M y u2) (hf : vmakeSlice P H t x y = some (v, H')) :
    ∃ r w' M', (Instr.makeSlice t u1 u2).run P w = .ok r w' ∧ VR M' v r ∧ Rel w0 M' H' w' ∧ Ext M M' := by
  unfold vmakeSlice at hf
  split at hf
  · rename_i e hu
    obtain ⟨len, h1, hf⟩ := obind hf
    obtain ⟨cap, h2, hf⟩ := obind hf
    obtain ⟨i, h3, hf⟩ := obind hf
    obtain ⟨z, h4, hf⟩ := obind hf
    obtain ⟨k1, rfl⟩ := asInt_sound hx h1
    obtain ⟨k2, rfl⟩ := asInt_sound hy h2
    dsimp only at hf
    split at hf
    · rename_i hb
      obtain ⟨b1, b2, b3, b4⟩ := hb
      cases hf
      generalize hl : IntKind.i64.wrap len = l at *
      generalize hc : IntKind.i64.wrap cap = c at *
      have hz : zeroOf P e = some z := by unfold zeroOf; rw [h3]; exact h4
      have hsz : Am.sizeOf P e = some i.size := by unfold Am.sizeOf; rw [h3]; rfl
      have hnl : ¬ ((i.bytes : Int) * c > 2 ^ 48) := by
        have : (2 : Int) ^ 47 ≤ 2 ^ 48 := by decide
        omega
      let cells : Array Value := (Array.range (c.toNat * i.size)).map fun j => ((if c.toNat * i.size = 0 then #[] else z.cells) : Array Value)[j % ((if c.toNat * i.size = 0 then #[] else z.cells) : Array Value).size]!
      have hcs : cells.size = c.toNat * i.size := by simp [cells]
      have hle : l.toNat * i.size ≤ c.toNat * i.size := Nat.mul_le_mul_right _ (by omega)
      obtain ⟨q1, q2⟩ := hR.alloc (zeroCells z.cells.toList l.toNat) cells e (by rw [zeroCells_length, hcs]; simp only [Array.length_toList]; rw [b4]; exact hle) (fun j v hv => by
        obtain ⟨p1, p2⟩ := zeroCells_get _ _ _ _ hv
        simp only [Array.length_toList, b4] at p1 p2
        refine ⟨_, Array.getElem?_eq_getElem (by rw [hcs]; omega), ?_⟩
        subst p2
        have hne : c.toNat * i.size ≠ 0 := by omega
        have hi0 : 0 < i.size := by
          rcases Nat.eq_zero_or_pos i.size with q | q
          · rw [q] at p1; omega
          · exact q
        have : j % i.size < z.cells.size := by rw [b4]; exact Nat.mod_lt _ hi0
        simp only [VR, cells, Array.getElem_map, Array.getElem_range, hne, if_false, b4]
        simp [List.getD, this])
      refine ⟨.slice (some ⟨w.heap.size, 0, none⟩) l.toNat c.toNat, _, _, ?_, ?_, q1, q2⟩
      · unfold Instr.makeSlice
        simp only [Sem.run_bind, run_under hu, Result.andThen_ok, run_asInt', info_run h3, hl, hc]
        have hcond : (decide (c < 0) || decide ((i.bytes : Int) * c > 2 ^ 48) || decide (l < 0) || decide (l > c)) = false := by
          simp only [Bool.or_eq_false_iff, decide_eq_false_iff_not]
          exact ⟨⟨⟨by omega, hnl⟩, by omega⟩, by omega⟩
        simp only [hcond, Bool.false_eq_true, if_false, Sem.run_pure, Result.andThen_ok, run_askRoom, sizeOf_run hsz, Sem.run_ite, Sem.run_bind, zero_run hz]
        unfold newRow
        by_cases h0 : c.toNat * i.size = 0
        · simp only [h0, if_true, Result.andThen_ok, Sem.run_bind, run_newObj, Sem.run_pure, cells]; rfl
        · simp only [h0, if_false, Result.andThen_ok, Sem.run_bind, run_newObj, Sem.run_pure, cells]; rfl
      · simp only [VR]
        refine ⟨_, c.toNat, _, rfl, fun q => ?_, by omega, upd_same _ _ _, Nat.le_refl _, fun _ => ⟨.inr rfl, fun q => ?_⟩⟩
        · simp only [decide_eq_true_eq] at q; rw [if_pos q]
        · simp only [hcs]; omega
    · cases hf
  · cases hf

end Go.Am
