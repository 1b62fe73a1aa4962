/-
  Each operation of the model does on memory what the abstract machine says of it.
-/
import Derived.Test.YtnicmcdnpeimoaaDoorAm2
set_option linter.unusedVariables false
set_option linter.unusedSimpArgs false
namespace Go.Am
open Go.RowKit

variable {P : Program} {w0 w : World} {M : Mp} {H : Hp}

theorem VR_s (v : Value) : VR M (.s v) v := by simp only [VR]

theorem obind {α β : Type} {x : Option α} {f : α → Option β} {b : β} (h : x.bind f = some b) : ∃ a, x = some a ∧ f a = some b := by
  cases x with
  | none => cases h
  | some a => exact ⟨a, rfl, h⟩

theorem omap {α β : Type} {x : Option α} {f : α → β} {b : β} (h : x.map f = some b) : ∃ a, x = some a ∧ f a = b := by
  cases x with
  | none => cases h
  | some a => exact ⟨a, rfl, by simpa using h⟩

theorem run_under {t : TypeId} {d : TypeDesc} (h : P.underlying t = some d) (w : World) : (underlying t).run P w = .ok d w := run_underlying h w

theorem isAgg_run {t : TypeId} {a : Bool} (h : Am.isAgg P t = some a) (w : World) : (Go.isAgg t).run P w = .ok a w := by
  unfold Am.isAgg at h
  unfold Go.isAgg
  cases hu : P.underlying t with
  | none => rw [hu] at h; cases h
  | some d =>
    rw [hu] at h
    simp only [Sem.run_bind, run_under hu, Result.andThen_ok]
    cases d <;> simp only [Option.some.injEq] at h <;> subst h <;> rfl

theorem info_run {t : TypeId} {i : TypeInfo} (h : P.info? t = some i) (w : World) : (typeInfo t).run P w = .ok i w := by
  unfold typeInfo
  simp only [Sem.run_bind, run_program, Result.andThen_ok, h, Sem.run_pure]

theorem sizeOf_run {t : TypeId} {k : Nat} (h : Am.sizeOf P t = some k) (w : World) : (Go.sizeOf t).run P w = .ok k w := by
  unfold Am.sizeOf at h
  obtain ⟨i, h1, h2⟩ := omap h
  unfold Go.sizeOf
  simp only [Sem.run_bind, info_run h1, Result.andThen_ok, Sem.run_pure, h2]

theorem zero_run {t : TypeId} {z : Value} (h : zeroOf P t = some z) (w : World) : (zeroValue t).run P w = .ok z w := by
  unfold zeroOf at h
  obtain ⟨i, h1, h2⟩ := obind h
  unfold zeroValue
  simp only [Sem.run_bind, info_run h1, Result.andThen_ok, h2, Sem.run_pure]

theorem blk_cell (h : Rel w0 M H w) {n g : Nat} {b : Blk} (hb : Am.blk H n g = some b) : ∃ L, M n = some L ∧ L.g = g ∧ ∀ i v, b.cells[i]? = some v → ∃ u, w.cell? ⟨L.b, L.base + i, none⟩ = some u ∧ VR M v u := by
  obtain ⟨hb, hbg⟩ := blk_some hb
  obtain ⟨L, c, e, fz, q1, q2, q3, q4, q5, q6, q7⟩ := h.blk n b hb
  refine ⟨L, q1, q2.trans hbg, fun i v hv => ?_⟩
  obtain ⟨u, h1, h2⟩ := q6 i v hv
  exact ⟨u, by rw [cell_of_heap q3]; exact h1, h2⟩

theorem loadVar_sound (h : Rel w0 M H w) {t : TypeId} {n g off : Nat} {v : V} (hl : Am.loadVar P H t n g off = some v) :
    ∃ L u, M n = some L ∧ L.g = g ∧ (Go.loadVar t ⟨L.b, L.base + off, none⟩).run P w = .ok u w ∧ VR M v u := by
  unfold Am.loadVar at hl
  obtain ⟨a, ha, hl⟩ := obind hl
  cases a with
  | true =>
    simp only [if_true] at hl
    obtain ⟨k, hk, hl⟩ := obind hl
    obtain ⟨cs, hcs, hl⟩ := obind hl
    cases hl
    obtain ⟨L, us, h1, h2, h3, h4, h5, h6⟩ := h.loads P hcs
    refine ⟨L, .agg us.toArray, h1, h2, ?_, ?_⟩
    · unfold Go.loadVar
      simp only [Sem.run_bind, isAgg_run ha, Result.andThen_ok, if_true, sizeOf_run hk, h5, Sem.run_pure]
    · simp only [VR]; exact ⟨us, rfl, h4⟩
  | false =>
    simp only [Bool.false_eq_true, if_false] at hl
    obtain ⟨b, hb, hl⟩ := obind hl
    obtain ⟨L, h1, h2, h3⟩ := blk_cell h hb
    obtain ⟨u, h4, h5⟩ := h3 _ _ hl
    refine ⟨L, u, h1, h2, ?_, h5⟩
    unfold Go.loadVar
    simp only [Sem.run_bind, isAgg_run ha, Result.andThen_ok, Bool.false_eq_true, if_false, run_load, h4]

theorem storeVar_sound (h : Rel w0 M H w) {t : TypeId} {n g off : Nat} {v : V} {u : Value} {H' : Hp} (hs : Am.storeVar P H t n g off v = some H') (hv : VR M v u) :
    ∃ L w', M n = some L ∧ L.g = g ∧ (Go.storeVar t ⟨L.b, L.base + off, none⟩ u).run P w = .ok () w' ∧ Rel w0 M H' w' := by
  unfold Am.storeVar at hs
  obtain ⟨cs, hcs, hs⟩ := obind hs
  obtain ⟨k, hk, hs⟩ := obind hs
  split at hs
  · rename_i hlen
    have hvs := VR_cells hv hcs
    obtain ⟨L, h1, h2, h3, h4⟩ := h.stores P hs hvs
    refine ⟨L, _, h1, h2, ?_, h3⟩
    have hl := VRs_length hvs
    have hsz : ¬ u.cells.size ≠ k := by simp only [Array.length_toList] at hl; omega
    unfold Go.storeVar
    simp only [Sem.run_bind, sizeOf_run hk, Result.andThen_ok, hsz, if_false, Sem.run_ite, Sem.run_pure, h4]
  · cases hs

theorem newVar_sound (h : Rel w0 M H w) {t : TypeId} {v v' : V} {u : Value} {H' : Hp} (hs : Am.newVar H t v = some (v', H')) (hv : VR M v u) :
    ∃ a w' M', (Go.newVar t u).run P w = .ok a w' ∧ VR M' v' (.pointer (some a)) ∧ Rel w0 M' H' w' ∧ Ext M M' := by
  unfold Am.newVar at hs
  obtain ⟨cs, hcs, hs⟩ := obind hs
  cases hs
  have hvs := VR_cells hv hcs
  have hl := VRs_length hvs
  simp only [Array.length_toList] at hl
  obtain ⟨h1, h2⟩ := h.alloc cs u.cells t (by omega) (fun i x hx => by
    obtain ⟨y, h1, h2⟩ := VRs_get hvs hx
    exact ⟨y, by simpa using h1, h2⟩)
  refine ⟨⟨w.heap.size, 0, none⟩, _, _, ?_, ?_, h1, h2⟩
  · unfold Go.newVar newRow
    simp only [Sem.run_bind, run_newObj, Result.andThen_ok, Sem.run_pure]
    rfl
  · simp only [VR]
    exact ⟨_, _, rfl, upd_same _ _ _, Nat.le_refl _, fun _ => rfl⟩

theorem part_sound {t : TypeId} {cs : List V} {us : List Value} {off : Nat} {v : V} (hv : VRs M cs us) (hp : Am.part P t cs off = some v) (w : World) :
    ∃ u, (Go.part t us.toArray off).run P w = .ok u w ∧ VR M v u := by
  unfold Am.part at hp
  obtain ⟨a, ha, hp⟩ := obind hp
  cases a with
  | true =>
    simp only [if_true] at hp
    obtain ⟨k, hk, hp⟩ := obind hp
    cases hp
    refine ⟨.agg (us.toArray.extract off (off + k)), ?_, ?_⟩
    · unfold Go.part
      simp only [Sem.run_bind, isAgg_run ha, Result.andThen_ok, if_true, sizeOf_run hk, Sem.run_pure]
    · simp only [VR]
      refine ⟨(us.drop off).take k, ?_, VRs_drop_take hv _ _⟩
      congr 1
      apply Array.ext'
      simp [List.extract_eq_take_drop]
  | false =>
    simp only [Bool.false_eq_true, if_false] at hp
    obtain ⟨u, h1, h2⟩ := VRs_get hv hp
    refine ⟨u, ?_, h2⟩
    unfold Go.part
    simp only [Sem.run_bind, isAgg_run ha, Result.andThen_ok, Bool.false_eq_true, if_false, List.getElem?_toArray, h1, Sem.run_pure]

theorem asInt_sound {v : V} {u : Value} {i : Int} (hv : VR M v u) (hi : asInt v = some i) : ∃ k, u = .int k i := by
  unfold asInt at hi
  split at hi
  · cases hi; simp only [VR] at hv; exact ⟨_, hv⟩
  · cases hi

theorem run_asIntOf (k : IntKind) (i : Int) (w : World) : (asIntOf (.int k i)).run P w = .ok (k, i) w := rfl
theorem run_asInt' (k : IntKind) (i : Int) (w : World) : (Go.asInt (.int k i)).run P w = .ok i w := rfl

theorem fieldAddr_sound {s : TypeId} {x v : V} {u : Value} {f : Nat} (hx : VR M x u) (hf : vfieldAddr P s x f = some v) (w : World) :
    ∃ y, (Instr.fieldAt s u f).run P w = .ok y w ∧ VR M v y := by
  unfold vfieldAddr at hf
  split at hf
  · rename_i fields n g off hu
    obtain ⟨fd, h1, hf⟩ := obind hf
    obtain ⟨k, h2, hf⟩ := obind hf
    split at hf
    · cases hf
    · rename_i hk
      cases hf
      simp only [VR] at hx ⊢
      obtain ⟨a, L, rfl, h3, h4, h5⟩ := hx
      refine ⟨.pointer (some (a.add fd.offset)), ?_, ?_⟩
      · unfold Instr.fieldAt Instr.sureAddr fieldPlace
        simp only [Sem.run_bind, run_under hu, Result.andThen_ok, h1, Sem.run_pure, sizeOf_run h2, hk, if_false]
      · refine ⟨_, L, rfl, h3, h4, fun e => ?_⟩
        rw [h5 e, add_none, Nat.add_assoc]
  · cases hf

theorem field_sound {s : TypeId} {x v : V} {u : Value} {f : Nat} (hx : VR M x u) (hf : vfield P s x f = some v) (w : World) :
    ∃ y, (Instr.field s u f).run P w = .ok y w ∧ VR M v y := by
  unfold vfield at hf
  split at hf
  · rename_i fields cs hu
    obtain ⟨fd, h1, hf⟩ := obind hf
    simp only [VR] at hx
    obtain ⟨us, rfl, hx⟩ := hx
    obtain ⟨y, h2, h3⟩ := part_sound hx hf w
    refine ⟨y, ?_, h3⟩
    unfold Instr.field asAgg
    simp only [Sem.run_bind, run_under hu, Result.andThen_ok, h1, Sem.run_pure, h2]
  · rename_i fields a hu
    obtain ⟨fd, h1, hf⟩ := obind hf
    simp only [VR] at hx
    subst hx
    obtain ⟨y, h2, h3⟩ := part_sound (VRs_s a.toList) hf w
    refine ⟨y, ?_, h3⟩
    unfold Instr.field asAgg
    simp only [Sem.run_bind, run_under hu, Result.andThen_ok, h1, Sem.run_pure]
    simpa using h2
  · cases hf

theorem indexAddr_sound {t : TypeId} {x ix v : V} {u i : Value} (hx : VR M x u) (hi : VR M ix i) (hf : vindexAddr P t x ix = some v) (w : World) :
    ∃ y, (Instr.indexAt t u i).run P w = .ok y w ∧ VR M v y := by
  unfold vindexAddr at hf
  obtain ⟨j, hj, hf1⟩ := obind hf
  clear hf
  obtain ⟨kd, rfl⟩ := asInt_sound hi hj
  split at hf1
  · rename_i len e n g off hu
    obtain ⟨k, hk, hf1⟩ := obind hf1
    split at hf1
    · rename_i hb
      cases hf1
      simp only [VR] at hx ⊢
      obtain ⟨a, L, rfl, h3, h4, h5⟩ := hx
      refine ⟨.pointer (some (a.add (j.toNat * k))), ?_, ?_⟩
      · unfold Instr.indexAt Instr.sureAddr
        simp only [Sem.run_bind, run_asIntOf, run_under hu, Result.andThen_ok, Sem.run_pure, hb, and_self, if_true, sizeOf_run hk]
      · refine ⟨_, L, rfl, h3, h4, fun e => ?_⟩
        rw [h5 e, add_none, Nat.add_assoc]
    · cases hf1
  · rename_i e n g off len cap ex sz hu
    obtain ⟨k, hk, hf1⟩ := obind hf1
    split at hf1
    · rename_i hb
      obtain ⟨hb0, hb1, hb2⟩ := hb
      cases hf1
      subst hb2
      simp only [VR] at hx ⊢
      obtain ⟨a, c, L, rfl, h1, h2, h3, h4, h5⟩ := hx
      refine ⟨.pointer (some (a.add (j.toNat * k))), ?_, ?_⟩
      · unfold Instr.indexAt
        simp only [Sem.run_bind, run_asIntOf, run_under hu, Result.andThen_ok, Sem.run_pure, hb0, hb1, and_self, if_true, sizeOf_run hk]
      · refine ⟨_, L, rfl, h3, h4, fun e => ?_⟩
        rcases (h5 e).1 with h6 | h6
        · omega
        · rw [h6, add_none, Nat.add_assoc]
    · cases hf1
  · cases hf1

theorem index_sound {t : TypeId} {x ix v : V} {u i : Value} (hx : VR M x u) (hi : VR M ix i) (hf : vindex P t x ix = some v) (w : World) :
    ∃ y, (Instr.index t u i).run P w = .ok y w ∧ VR M v y := by
  unfold vindex at hf
  obtain ⟨j, hj, hf1⟩ := obind hf
  clear hf
  obtain ⟨kd, rfl⟩ := asInt_sound hi hj
  split at hf1
  · rename_i len e cs hu
    obtain ⟨k, hk, hf1⟩ := obind hf1
    split at hf1
    · rename_i hb
      simp only [VR] at hx
      obtain ⟨us, rfl, hx⟩ := hx
      obtain ⟨y, h2, h3⟩ := part_sound hx hf1 w
      refine ⟨y, ?_, h3⟩
      unfold Instr.index
      simp only [Sem.run_bind, run_asIntOf, run_under hu, Result.andThen_ok, hb, and_self, if_true, sizeOf_run hk, h2]
    · cases hf1
  · rename_i s hu
    simp only [VR] at hx
    subst hx
    split at hf1
    · rename_i hb
      obtain ⟨b, h1, h2⟩ := omap hf1
      subst h2
      refine ⟨_, ?_, VR_s _⟩
      unfold Instr.index
      simp only [Sem.run_bind, run_asIntOf, run_under hu, Result.andThen_ok, hb, if_true, h1, Sem.run_pure]
    · cases hf1
  · cases hf1

theorem extract_sound {x v : V} {u : Value} {ix : Nat} (hx : VR M x u) (hf : vextract x ix = some v) (w : World) :
    ∃ y, (Instr.extract u ix).run P w = .ok y w ∧ VR M v y := by
  unfold vextract at hf
  split at hf
  · simp only [VR] at hx
    obtain ⟨us, rfl, hx⟩ := hx
    obtain ⟨y, h1, h2⟩ := VRs_get hx hf
    refine ⟨y, ?_, h2⟩
    unfold Instr.extract
    simp only [List.getElem?_toArray, h1, Sem.run_pure]
  · cases hf

/-- A row of variables of one type, seen from one of them on. -/
theorem lies_row (u : TypeId) (count off n k : Nat) (hk : P.cellsOf u = k) (k0 : k ≠ 0) (hr : off % k = 0) (hn : off / k + n ≤ count) : liesAt P P.depth u count off u n = true := by
  obtain ⟨d, hd⟩ : ∃ d, P.depth = d + 1 := ⟨P.depth - 1, by unfold Program.depth; omega⟩
  rw [hd]
  have hs : sameLayout P (d + 1) u u = true := by simp [sameLayout]
  have : rowAt P (sameLayout P P.depth · u) (d + 1) u count off n = true := by
    rw [hd]
    simp only [rowAt, hk, k0, if_false, hr, beq_self_eq_true, hs, Bool.true_and, Bool.and_true, decide_eq_true hn, Bool.true_or]
  rw [hd] at this
  simp only [liesAt, hd, this, Bool.true_or]

theorem bytes_cells {cs : List V} {us : List Value} : ∀ {l : List UInt8}, VRs M cs us → bytesOf cs = some l → l.length = cs.length ∧ ∀ (j : Nat) (x : UInt8), l[j]? = some x → us[j]? = some (.int .u8 x.toNat) := by
  induction cs generalizing us with
  | nil => intro l hv hb; simp only [bytesOf] at hb; cases hb; exact ⟨rfl, fun j x h => by simp at h⟩
  | cons v cs ih =>
    intro l hv hb
    simp only [VRs] at hv
    obtain ⟨u, us', rfl, h1, h2⟩ := hv
    unfold bytesOf at hb
    split at hb
    · rename_i heq; cases heq
    · rename_i n r heq
      cases heq
      split at hb
      · rename_i hn
        obtain ⟨l', h3, h4⟩ := obind hb
        cases h4
        obtain ⟨i1, i2⟩ := ih h2 h3
        refine ⟨by simp [i1], fun j x hx => ?_⟩
        cases j with
        | zero =>
          simp only [List.getElem?_cons_zero, Option.some.injEq] at hx ⊢
          simp only [VR] at h1
          subst hx; subst h1
          congr 1
          simp only [Nat.toUInt8_eq, UInt8.toNat_ofNat']
          omega
        | succ j => simpa using i2 j x (by simpa using hx)
      · cases hb
    · cases hb

theorem fold_push : ∀ (l : List UInt8) (s : ByteArray), (l.map fun x => (x.toNat : Int)).foldl (fun r n => r.push (UInt8.ofNat n.toNat)) s = ⟨s.data ++ l.toArray⟩
  | [], s => by simp
  | x :: l, s => by
    simp only [List.map_cons, List.foldl_cons]
    rw [fold_push l]
    congr 1
    simp [ByteArray.push]

theorem conv_sound (hR : Rel w0 M H w) {s d : TypeId} {x v : V} {u : Value} (hx : VR M x u) (hf : vconv P H s d x = some v) :
    ∃ y, (convert s d u).run P w = .ok y w ∧ VR M v y := by
  unfold vconv at hf
  split at hf
  · rename_i sd k kk n h1 h2
    cases hf
    simp only [VR] at hx
    subst hx
    refine ⟨_, ?_, VR_s _⟩
    unfold convert
    simp only [Sem.run_bind, run_under h1, run_under h2, Result.andThen_ok]
    cases sd <;> rfl
  · rename_i b h1 h2
    cases hf
    simp only [VR] at hx
    subst hx
    refine ⟨_, ?_, VR_s _⟩
    unfold convert
    simp only [Sem.run_bind, run_under h1, run_under h2, Result.andThen_ok]
    rfl
  · rename_i e _ _ h1 h2
    split at hf
    · rename_i h3
      cases hf
      simp only [VR] at hx
      subst hx
      refine ⟨_, ?_, VR_s _⟩
      rw [run_convert_bytes_string w _ _ _ _ _ _ h1 h3 h2]
      rfl
    · cases hf
  · rename_i e n g off len cap ex sz h1 h2
    split at hf
    · rename_i h3
      split at hf
      · rename_i hsz
        obtain ⟨cs, hcs, hf1⟩ := obind hf
        clear hf
        obtain ⟨l, hl, hf⟩ := obind hf1
        clear hf1
        cases hf
        obtain ⟨L, us, q1, q2, q3, q4, q5, q6⟩ := hR.loads P hcs
        obtain ⟨s1, s2⟩ := bytes_cells q4 hl
        simp only [VR] at hx
        obtain ⟨a, c', L', rfl, e1, e2, e3, e4, e5⟩ := hx
        rw [q1] at e3; cases e3
        have hus : us = (l.map fun x => (x.toNat : Int)).map (Value.int .u8) := by
          apply List.ext_getElem?
          intro j
          by_cases hj : j < l.length
          · rw [s2 j l[j] (List.getElem?_eq_getElem hj)]
            simp [hj]
          · rw [List.getElem?_eq_none (by rw [VRs_length q4]; omega), List.getElem?_eq_none (by simp; omega)]
        have hload : (loadCells a len).run P w = .ok ((l.map fun x => (x.toNat : Int)).map (Value.int .u8)).toArray w := by
          by_cases h0 : len = 0
          · subst h0
            have : us = [] := List.length_eq_zero_iff.1 q3
            rw [← hus, this]
            rfl
          · rcases (e5 q2).1 with q | q
            · omega
            · rw [q, ← hus]; exact q5
        refine ⟨_, ?_, VR_s _⟩
        rw [run_convert_bytes_string w _ _ _ _ _ _ h1 h3 h2, run_bytesToString w a len c' _ hload, fold_push]
        simp
      · cases hf
    · cases hf
  · rename_i t n g off h1 h2
    obtain ⟨b, hb, hf1⟩ := obind hf
    clear hf
    obtain ⟨k, hk, hf⟩ := obind hf1
    clear hf1
    split at hf
    · cases hf
    · rename_i hc
      cases hf
      obtain ⟨hb, hbg⟩ := blk_some hb
      obtain ⟨L, c, e, fz, q1, q2, q3, q4, q5, q6, q7⟩ := hR.blk n b hb
      have hx' := hx
      simp only [VR] at hx
      obtain ⟨a, L', rfl, e1, e2, e3⟩ := hx
      rw [q1] at e1; cases e1
      have ha := e3 (q2.trans hbg)
      refine ⟨_, ?_, hx'⟩
      have hsh : w.shape? L.b = some (e, c.size) := by unfold World.shape?; rw [q3]
      have hk0 : k ≠ 0 := fun e => hc (.inl e)
      have hco : ¬ b.cells.length ≤ off := fun e => hc (.inr e)
      unfold convert
      simp only [Sem.run_bind, run_under h1, run_under h2, Result.andThen_ok]
      unfold Conv.unsafePointer
      simp only [Sem.run_bind, run_under h1, run_under h2, Result.andThen_ok, ha, Conv.seenAt, viewAt, run_shape, hsh, Option.isSome_some, if_true, Sem.run_pure, cellsIn, sizeOf_run hk, hk0, false_or]
      rw [if_neg (by simp; omega)]
      rfl
  · rename_i u n g off h1 h2
    obtain ⟨b, hb, hf1⟩ := obind hf
    clear hf
    obtain ⟨k, hk, hf⟩ := obind hf1
    clear hf1
    split at hf
    · cases hf
    · rename_i hc
      cases hf
      simp only [not_or, Decidable.not_not, Nat.not_lt] at hc
      obtain ⟨c1, c2, c3, c4, c5⟩ := hc
      obtain ⟨hb, hbg⟩ := blk_some hb
      obtain ⟨L, c, e, fz, q1, q2, q3, q4, q5, q6, q7⟩ := hR.blk n b hb
      obtain ⟨q8, q9⟩ := hR.kind n b L c e fz hb q1 q3
      have hx' := hx
      simp only [VR] at hx
      obtain ⟨a, L', rfl, e1, e2, e3⟩ := hx
      rw [q1] at e1; cases e1
      have ha := e3 (q2.trans hbg)
      have hbase : L.base = 0 := q9 (by simpa using c3)
      rw [hbase, c4] at ha
      refine ⟨_, ?_, hx'⟩
      have hsh : w.shape? L.b = some (e, c.size) := by unfold World.shape?; rw [q3]
      have hcell : P.cellsOf u = k := by
        unfold Program.cellsOf
        unfold Am.sizeOf at hk
        rw [hk]; rfl
      have hlies : liesAt P P.depth e (c.size / P.cellsOf e) 0 u 1 = true := by
        rw [q8, c2, hcell]
        refine lies_row u _ 0 1 k hcell c1 (by simp) ?_
        have : 1 ≤ c.size / k := (Nat.le_div_iff_mul_le (by omega)).2 (by omega)
        simpa using this
      unfold convert
      simp only [Sem.run_bind, run_under h1, run_under h2, Result.andThen_ok]
      unfold Conv.unsafePointer
      simp only [Sem.run_bind, run_under h1, run_under h2, Result.andThen_ok, ha, Conv.seenAt, viewAt, run_shape, hsh, Option.isSome_some, if_true, Sem.run_pure, variablesAt, run_program, hlies, sizeOf_run hk, Bool.or_true]
  · cases hf

theorem un_sound {op : UnOp} {x v : V} {u : Value} (hx : VR M x u) (hf : vun op x = some v) (w : World) :
    ∃ y, (Op.unary op u).run P w = .ok y w ∧ VR M v y := by
  unfold vun at hf
  split at hf
  · simp only [VR] at hx; subst hx
    simp only [pint, Option.map_some, Option.some.injEq] at hf; subst hf
    exact ⟨_, rfl, VR_s _⟩
  · simp only [VR] at hx; subst hx
    simp only [pint, Option.map_some, Option.some.injEq] at hf; subst hf
    exact ⟨_, rfl, VR_s _⟩
  · simp only [VR] at hx; subst hx
    cases hf
    exact ⟨_, rfl, VR_s _⟩
  · cases hf

end Go.Am
