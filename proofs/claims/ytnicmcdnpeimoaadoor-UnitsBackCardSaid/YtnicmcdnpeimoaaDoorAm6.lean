/-
  Each operation of the model does on memory what the abstract machine says of it, fourth part: append.
-/
import Derived.Test.YtnicmcdnpeimoaaDoorAm5
set_option linter.unusedVariables false
set_option linter.unusedSimpArgs false
namespace Go.Am
open Go.RowKit

variable {P : Program} {w0 w : World} {M : Mp} {H : Hp}

theorem loadCells_zero (a : Addr) (w : World) : (loadCells a 0).run P w = .ok #[] w := rfl

/-- What an append reads of its second operand. -/
theorem first_sound (hR : Rel w0 M H w) {x : V} {u : Value} {sz k : Nat} {new : List V} (hx : VR M x u) (hk : flen x = some k) (hf : Am.firstCells H sz x = some new) :
    ∃ us, VRs M new us ∧ us.length = k * sz ∧ (∀ w1, (Builtin.lenOf u).run P w1 = .ok k w1) ∧ (∀ w1 : World, (∀ a, w1.cell? a = w.cell? a) → (Builtin.firstCells sz k u).run P w1 = .ok us.toArray w1) := by
  unfold Am.firstCells at hf
  split at hf
  · rename_i n g off len cap ex z
    split at hf
    · rename_i hz
      subst hz
      simp only [flen, Option.some.injEq] at hk
      subst hk
      simp only [VR] at hx
      obtain ⟨a, c', L, rfl, e1, e2, e3, e4, e5⟩ := hx
      obtain ⟨L2, us, q1, q2, q3, q4, q5, q6⟩ := hR.loads P hf
      rw [e3] at q1; cases q1
      refine ⟨us, q4, q3, fun _ => rfl, fun w1 hw1 => ?_⟩
      unfold Builtin.firstCells
      dsimp only
      by_cases hl : len = 0
      · subst hl
        simp only [Nat.zero_mul] at q3 q5 ⊢
        have : us = [] := List.length_eq_zero_iff.1 q3
        subst this
        rfl
      · rcases (e5 q2).1 with q | q
        · omega
        · rw [q, ← q3]
          exact run_loadCells_list (P := P) w1 _ us (fun j v hj => by rw [add_none, hw1]; exact q6 j v hj)
    · cases hf
  · cases hf
    simp only [flen, Option.some.injEq] at hk
    subst hk
    simp only [VR] at hx; subst hx
    exact ⟨[], by simp [VRs], by simp, fun _ => rfl, fun _ _ => rfl⟩
  · rename_i b
    split at hf
    · rename_i hz
      subst hz
      cases hf
      simp only [flen, Option.some.injEq] at hk
      subst hk
      simp only [VR] at hx; subst hx
      refine ⟨b.data.toList.map fun x => .int .u8 x.toNat, ?_, by rw [List.length_map, Array.length_toList, Nat.mul_one]; rfl, fun _ => rfl, fun w1 _ => ?_⟩
      · have := VRs_s (M := M) (b.data.toList.map fun x => Value.int .u8 x.toNat)
        simpa [Function.comp_def] using this
      · unfold Builtin.firstCells
        simp only [Sem.run_pure]
        congr 1
        apply Array.ext'
        simp [ByteArray.extract_zero_size]
    · cases hf
  · cases hf

/-- The new cells of an append, and what the model finds there. -/
theorem new_sound (hR : Rel w0 M H w) {i : TypeInfo} {e : TypeId} {z : Value} {xt : TypeDesc} {x : V} {u : Value} {k : Nat} {new : List V}
    (hi : P.info? e = some i) (hz : i.zero = some z) (hzs : z.cells.size = i.size) (hx : VR M x u) (hn : vnew P H i z xt x = some (k, new)) :
    ∃ us, VRs M new us ∧ us.length = k * i.size ∧
      ((∃ q, xt = .int q) → ∃ kd l, u = .int kd l ∧ 0 ≤ IntKind.i64.wrap l ∧ IntKind.i64.wrap l * i.bytes ≤ 2 ^ 47 ∧ (IntKind.i64.wrap l).toNat = k ∧ us = (Builtin.zeroCells z.cells k).toList) ∧
      ((¬ ∃ q, xt = .int q) → (∀ w1, (Builtin.lenOf u).run P w1 = .ok k w1) ∧ (∀ w1 : World, (∀ a, w1.cell? a = w.cell? a) → (Builtin.firstCells i.size k u).run P w1 = .ok us.toArray w1)) := by
  unfold vnew at hn
  split at hn
  · rename_i q
    obtain ⟨l, h1, hn⟩ := obind hn
    obtain ⟨kd, rfl⟩ := asInt_sound hx h1
    split at hn
    · rename_i hb
      cases hn
      refine ⟨(Builtin.zeroCells z.cells (IntKind.i64.wrap l).toNat).toList, ?_, by simp [Builtin.zeroCells, hzs], fun _ => ⟨kd, l, rfl, hb.1, hb.2, rfl, rfl⟩, fun h => absurd ⟨q, rfl⟩ h⟩
      refine VRs_of_get (by simp [Builtin.zeroCells, zeroCells_length]) fun j v u hv hu => ?_
      obtain ⟨p1, p2⟩ := zeroCells_get _ _ _ _ hv
      subst p2
      simp only [Array.length_toList] at p1
      have hj : j % z.cells.size < z.cells.size := Nat.mod_lt _ (Nat.pos_of_ne_zero fun q => by rw [q] at p1; omega)
      simp only [Builtin.zeroCells, Array.getElem?_toList] at hu
      rw [Array.getElem?_eq_getElem (by simpa using p1)] at hu
      simp at hu
      subst hu
      simp [VR, List.getD, hj]
    · cases hn
  · rename_i hq
    obtain ⟨k', h1, hn⟩ := obind hn
    obtain ⟨new', h2, hn⟩ := obind hn
    cases hn
    obtain ⟨us, q1, q2, q3, q4⟩ := first_sound (P := P) hR hx h1 h2
    exact ⟨us, q1, q2, fun ⟨q, h⟩ => absurd h (hq q), fun _ => ⟨q3, q4⟩⟩

/-- The run of append's model, as far as its branches go. -/
structure NewRun (P : Program) (w : World) (i : TypeInfo) (z : Value) (xt : TypeDesc) (u : Value) (k : Nat) (us : List Value) : Prop where
  ints : (∃ q, xt = .int q) → ∃ kd l, u = .int kd l ∧ 0 ≤ IntKind.i64.wrap l ∧ IntKind.i64.wrap l * i.bytes ≤ 2 ^ 47 ∧ (IntKind.i64.wrap l).toNat = k ∧ us = (Builtin.zeroCells z.cells k).toList
  other : (¬ ∃ q, xt = .int q) → (∀ w1, (Builtin.lenOf u).run P w1 = .ok k w1) ∧ (∀ w1 : World, (∀ a, w1.cell? a = w.cell? a) → (Builtin.firstCells i.size k u).run P w1 = .ok us.toArray w1)

theorem append_in {ts : Array TypeId} {t0 t1 e ty : TypeId} {i : TypeInfo} {z : Value} {xt : TypeDesc} {u : Value} {k : Nat} {us : List Value} {base : Option Addr} {len cap : Nat} {w' : World}
    (h0 : ts[0]? = some t0) (h1 : ts[1]? = some t1) (hu : P.underlying t0 = some (.slice e)) (hu1 : P.underlying t1 = some xt) (hi : P.info? e = some i) (hz : i.zero = some z) (hzs : z.cells.size = i.size)
    (hN : NewRun P w i z xt u k us) (hul : us.length = k * i.size) (hle : len + k ≤ cap)
    (hst : (match base with | some a => storeCells (a.add (len * i.size)) us | none => pure () : Sem Unit).run P w = .ok () w') :
    (Builtin.append_ ts ty #[.slice base len cap, u]).run P w = .ok (.slice base (len + k) cap) w' := by
  have hsz : Am.sizeOf P e = some i.size := by unfold Am.sizeOf; rw [hi]; rfl
  have hzr : zeroOf P e = some z := by unfold zeroOf; rw [hi]; exact hz
  have h01 : (#[Value.slice base len cap, u] : Array Value)[0]? = some (.slice base len cap) := rfl
  have h02 : (#[Value.slice base len cap, u] : Array Value)[1]? = some u := rfl
  have hty : (typeInfo e).run P w = .ok i w := info_run hi w
  have hsr : (Go.sizeOf e).run P w = .ok i.size w := sizeOf_run hsz w
  have hzr' : (zeroValue e).run P w = .ok z w := zero_run hzr w
  have hrt : (underlying t0).run P w = .ok (.slice e) w := run_under hu w
  have hrt1 : (underlying t1).run P w = .ok xt w := run_under hu1 w
  unfold Builtin.append_
  rw [h0, h1, h01, h02]
  by_cases hq : ∃ q, xt = .int q
  · obtain ⟨kd, l, rfl, l0, l1, l2, l3⟩ := hN.ints hq
    obtain ⟨q, rfl⟩ := hq
    have hnl : ¬ (IntKind.i64.wrap l < 0) := by omega
    have hnb : ¬ (IntKind.i64.wrap l * (i.bytes : Int) > 2 ^ 48) := by
      have : (2 : Int) ^ 47 ≤ 2 ^ 48 := by decide
      omega
    have hnew : (if k * i.size = 0 then pure #[] else (do pure (Builtin.zeroCells (← zeroValue e).cells k)) : Sem (Array Value)).run P w = .ok us.toArray w := by
      rw [l3]
      split
      · rename_i hk0
        simp only [Sem.run_pure]
        congr 1
        have : (Builtin.zeroCells z.cells k).size = 0 := by simp [Builtin.zeroCells, hzs, hk0]
        exact (Array.eq_empty_of_size_eq_zero this).symm
      · simp only [Sem.run_bind, hzr', Result.andThen_ok, Sem.run_pure, Array.toArray_toList]
    dsimp only
    simp only [Sem.run_bind, hrt, hrt1, Result.andThen_ok, hsr, Sem.run_pure, run_asInt', if_true, hnl, hnb, if_false, hty, l2, hle, Bool.not_true, Bool.false_eq_true, hnew]
    cases base with
    | none => simp only [Sem.run_pure] at hst ⊢; cases hst; rfl
    | some a => simp only [Sem.run_bind, hst, Result.andThen_ok, Sem.run_pure]
  · obtain ⟨n1, n2⟩ := hN.other hq
    have hnew := n2 w (fun _ => rfl)
    have hlen := n1 w
    clear hN n1 n2
    cases xt <;> first
      | exact absurd ⟨_, rfl⟩ hq
      | (dsimp only
         simp only [Sem.run_bind, hrt, hrt1, Result.andThen_ok, hsr, Sem.run_pure, Bool.false_eq_true, if_false, hlen, hle, if_true, Bool.not_false, hnew]
         cases base with
         | none => simp only [Sem.run_pure] at hst ⊢; cases hst; rfl
         | some a => simp only [Sem.run_bind, hst, Result.andThen_ok, Sem.run_pure])

/-- The model's new array of an append. -/
theorem append_out {ts : Array TypeId} {t0 t1 e ty : TypeId} {i : TypeInfo} {z : Value} {xt : TypeDesc} {u : Value} {k : Nat} {us olds : List Value} {base : Option Addr} {len cap : Nat}
    (h0 : ts[0]? = some t0) (h1 : ts[1]? = some t1) (hu : P.underlying t0 = some (.slice e)) (hu1 : P.underlying t1 = some xt) (hi : P.info? e = some i) (hz : i.zero = some z) (hzs : z.cells.size = i.size)
    (hN : NewRun P w i z xt u k us) (hul : us.length = k * i.size) (hlt : cap < len + k) (hb47 : (len + k) * i.bytes ≤ 2 ^ 47) (h62 : len + k < 2 ^ 62)
    (hold : (Builtin.firstCells i.size len (.slice base len cap)).run P w.drew = .ok olds.toArray w.drew) :
    ∃ c : Nat, len + k ≤ c ∧ (Builtin.append_ ts ty #[.slice base len cap, u]).run P w =
      .ok (.slice (some ⟨w.heap.size, 0, none⟩) (len + k) c) (w.drew.alloc (.cells (olds.toArray ++ us.toArray ++ Builtin.zeroCells z.cells (c - (len + k))) e)) := by
  refine ⟨(Question.appendCap (len + k) cap e).cut (w.tape w.drawn (.appendCap (len + k) cap e)), by simp [Question.cut], ?_⟩
  generalize hc : (Question.appendCap (len + k) cap e).cut (w.tape w.drawn (.appendCap (len + k) cap e)) = c
  have hsz : Am.sizeOf P e = some i.size := by unfold Am.sizeOf; rw [hi]; rfl
  have hzrs : zeroOf P e = some z := by unfold zeroOf; rw [hi]; exact hz
  have h01 : (#[Value.slice base len cap, u] : Array Value)[0]? = some (.slice base len cap) := rfl
  have h02 : (#[Value.slice base len cap, u] : Array Value)[1]? = some u := rfl
  have hty : (typeInfo e).run P w = .ok i w := info_run hi w
  have htyd : (typeInfo e).run P w.drew = .ok i w.drew := info_run hi w.drew
  have hsr : (Go.sizeOf e).run P w = .ok i.size w := sizeOf_run hsz w
  have hzr : (zeroValue e).run P w.drew = .ok z w.drew := zero_run hzrs w.drew
  have hrt : (underlying t0).run P w = .ok (.slice e) w := run_under hu w
  have hrt1 : (underlying t1).run P w = .ok xt w := run_under hu1 w
  have hn : ¬ (len + k ≤ cap) := by omega
  have hmx : ¬ (((len + k : Nat) : Int) > IntKind.i64.max) := by
    have : IntKind.i64.max = 9223372036854775807 := by decide
    rw [this]; omega
  have hfit : ¬ (Builtin.nextslicecap (len + k) cap * i.bytes > 2 ^ 48) := by
    have := growslice_fits (need := len + k) (old := cap) (bytes := i.bytes) hlt (by
      have : (140737488355328 : Nat) = 2 ^ 47 := by decide
      omega)
    have h2 : (281474976710656 : Nat) = 2 ^ 48 := by decide
    omega
  have hch : (choose (.appendCap (len + k) cap e)).run P w = .ok c w.drew := by
    rw [run_choose, if_neg (by simp [Question.forced]), hc]; rfl
  have hnr : ∀ x : Array Value, (newRow e x).run P w.drew = .ok ⟨w.heap.size, 0, none⟩ (w.drew.alloc (.cells x e)) := fun x => rfl
  have hfalse : ∀ q : Prop, (((len + k : Nat) : Int) > IntKind.i64.max ∧ q) = False := fun q => eq_false (fun h => hmx h.1)
  unfold Builtin.append_
  rw [h0, h1, h01, h02]
  by_cases hq : ∃ q, xt = .int q
  · obtain ⟨kd, l, rfl, l0, l1, l2, l3⟩ := hN.ints hq
    obtain ⟨q, rfl⟩ := hq
    have hnl : ¬ (IntKind.i64.wrap l < 0) := by omega
    have hnb : ¬ (IntKind.i64.wrap l * (i.bytes : Int) > 2 ^ 48) := by
      have : (2 : Int) ^ 47 ≤ 2 ^ 48 := by decide
      omega
    have hnew : (if k * i.size = 0 then pure #[] else (do pure (Builtin.zeroCells (← zeroValue e).cells k)) : Sem (Array Value)).run P w.drew = .ok us.toArray w.drew := by
      rw [l3]
      split
      · rename_i hk0
        simp only [Sem.run_pure]
        congr 1
        have : (Builtin.zeroCells z.cells k).size = 0 := by simp [Builtin.zeroCells, hzs, hk0]
        exact (Array.eq_empty_of_size_eq_zero this).symm
      · simp only [Sem.run_bind, hzr, Result.andThen_ok, Sem.run_pure, Array.toArray_toList]
    dsimp only
    simp only [Sem.run_bind, hrt, hrt1, Result.andThen_ok, hsr, Sem.run_pure, run_asInt', if_true, hnl, hnb, if_false, hty, l2, hn, Bool.not_true, Bool.false_eq_true, hnew, hfalse, hfit, hch, htyd, run_askRoom, hold, hzr, hnr]
  · obtain ⟨n1, n2⟩ := hN.other hq
    have hnew := n2 w.drew (fun _ => rfl)
    have hlen := n1 w
    clear hN n1 n2
    cases xt <;> first
      | exact absurd ⟨_, rfl⟩ hq
      | (dsimp only
         simp only [Sem.run_bind, hrt, hrt1, Result.andThen_ok, hsr, Sem.run_pure, Bool.false_eq_true, if_false, hlen, hn, if_true, Bool.not_false, hnew, hty, hfalse, hfit, hch, htyd, run_askRoom, hold, hzr, hnr])

end Go.Am
