/-
  The abstract heap and the model's memory: how they are held against each other, and what each change of memory keeps of it.
-/
import Derived.Test.YtnicmcdnpeimoaaDoorAm1
set_option linter.unusedVariables false
set_option linter.unusedSimpArgs false
namespace Go.Am
open Go.RowKit

structure Loc where
  b : Nat
  base : Nat
  msz : Nat
  g : Nat

abbrev Mp := Nat → Option Loc

mutual
def VR (M : Mp) : V → Value → Prop
  | .s v, u => u = v
  | .ptr n g off, u => ∃ a L, u = .pointer (some a) ∧ M n = some L ∧ g ≤ L.g ∧ (L.g = g → a = ⟨L.b, L.base + off, none⟩)
  | .sl n g off len cap ex sz, u => ∃ a cap' L, u = .slice (some a) len cap' ∧ (ex = true → cap' = cap) ∧ len ≤ cap' ∧ M n = some L ∧ g ≤ L.g ∧
      (L.g = g → (cap' = 0 ∨ a = ⟨L.b, L.base + off, none⟩) ∧ (ex = false → L.base + off + cap' * sz = L.msz))
  | .fn f fst cap, u => ∃ as cs : List Value, u = .func (.func f) as.toArray cs.toArray ∧ VRs M fst as ∧ VRs M cap cs
  | .ifc t v, u => ∃ x, u = .iface t x ∧ VR M v x
  | .agg cs, u => ∃ us : List Value, u = .agg us.toArray ∧ VRs M cs us
  | .tup vs, u => ∃ us : List Value, u = .tuple us.toArray ∧ VRs M vs us
  | .junk, _ => True
def VRs (M : Mp) : List V → List Value → Prop
  | [], us => us = []
  | v :: vs, us => ∃ u us', us = u :: us' ∧ VR M v u ∧ VRs M vs us'
end

def Ext (M M' : Mp) : Prop := ∀ n L, M n = some L → ∃ L', M' n = some L' ∧ L.g ≤ L'.g ∧ (L.g = L'.g → L' = L)

theorem Ext.refl (M : Mp) : Ext M M := fun n L h => ⟨L, h, Nat.le_refl _, fun _ => rfl⟩

theorem Ext.trans {M M' M'' : Mp} (h : Ext M M') (k : Ext M' M'') : Ext M M'' := by
  intro n L hL
  obtain ⟨L', h1, h2, h3⟩ := h n L hL
  obtain ⟨L'', k1, k2, k3⟩ := k n L' h1
  refine ⟨L'', k1, Nat.le_trans h2 k2, fun e => ?_⟩
  have e1 : L.g = L'.g := by omega
  have := h3 e1
  subst this
  exact k3 e

mutual
theorem VR.ext {M M' : Mp} (h : Ext M M') : ∀ (v : V) (u : Value), VR M v u → VR M' v u
  | .s v, u => fun q => by simpa only [VR] using q
  | .ptr n g off, u => fun q => by
    simp only [VR] at q ⊢
    obtain ⟨a, L, h1, h2, h3, h4⟩ := q
    obtain ⟨L', k1, k2, k3⟩ := h n L h2
    refine ⟨a, L', h1, k1, Nat.le_trans h3 k2, fun e => ?_⟩
    have : L' = L := k3 (by omega)
    subst this; exact h4 e
  | .sl n g off len cap ex sz, u => fun q => by
    simp only [VR] at q ⊢
    obtain ⟨a, c, L, h1, h2, h3, h4, h5, h6⟩ := q
    obtain ⟨L', k1, k2, k3⟩ := h n L h4
    refine ⟨a, c, L', h1, h2, h3, k1, Nat.le_trans h5 k2, fun e => ?_⟩
    have : L' = L := k3 (by omega)
    subst this; exact h6 e
  | .fn f fst cap, u => fun q => by
    simp only [VR] at q ⊢
    obtain ⟨as, cs, h1, h2, h3⟩ := q
    exact ⟨as, cs, h1, VRs.ext h fst as h2, VRs.ext h cap cs h3⟩
  | .ifc t v, u => fun q => by
    simp only [VR] at q ⊢
    obtain ⟨x, h1, h2⟩ := q
    exact ⟨x, h1, VR.ext h v x h2⟩
  | .agg cs, u => fun q => by
    simp only [VR] at q ⊢
    obtain ⟨us, h1, h2⟩ := q
    exact ⟨us, h1, VRs.ext h cs us h2⟩
  | .tup cs, u => fun q => by
    simp only [VR] at q ⊢
    obtain ⟨us, h1, h2⟩ := q
    exact ⟨us, h1, VRs.ext h cs us h2⟩
  | .junk, u => fun _ => by simp only [VR]
theorem VRs.ext {M M' : Mp} (h : Ext M M') : ∀ (vs : List V) (us : List Value), VRs M vs us → VRs M' vs us
  | [], us => fun q => by simpa only [VRs] using q
  | v :: vs, us => fun q => by
    simp only [VRs] at q ⊢
    obtain ⟨u, us', h1, h2, h3⟩ := q
    exact ⟨u, us', h1, VR.ext h v u h2, VRs.ext h vs us' h3⟩
end

theorem VRs_length {M : Mp} : ∀ {vs : List V} {us : List Value}, VRs M vs us → us.length = vs.length
  | [], us, h => by simp only [VRs] at h; simp [h]
  | v :: vs, us, h => by
    simp only [VRs] at h
    obtain ⟨u, us', rfl, _, h3⟩ := h
    simp [VRs_length h3]

theorem VRs_get {M : Mp} : ∀ {vs : List V} {us : List Value} {i : Nat} {v : V}, VRs M vs us → vs[i]? = some v → ∃ u, us[i]? = some u ∧ VR M v u
  | [], us, i, v, h, k => by simp at k
  | x :: vs, us, i, v, h, k => by
    simp only [VRs] at h
    obtain ⟨u, us', rfl, h2, h3⟩ := h
    cases i with
    | zero => simp at k; subst k; exact ⟨u, rfl, h2⟩
    | succ i => simp at k; simpa using VRs_get h3 k

theorem VRs_of_get {M : Mp} : ∀ {vs : List V} {us : List Value}, us.length = vs.length → (∀ (i : Nat) (v : V) (u : Value), vs[i]? = some v → us[i]? = some u → VR M v u) → VRs M vs us
  | [], us, hl, h => by simp only [VRs]; simpa using hl
  | x :: vs, us, hl, h => by
    cases us with
    | nil => simp at hl
    | cons u us =>
      simp only [VRs]
      refine ⟨u, us, rfl, h 0 _ _ rfl rfl, VRs_of_get (by simpa using hl) fun i v u' hv hu => h (i + 1) v u' (by simpa using hv) (by simpa using hu)⟩

theorem VRs_append {M : Mp} {vs ws : List V} {us xs : List Value} (h : VRs M vs us) (k : VRs M ws xs) : VRs M (vs ++ ws) (us ++ xs) := by
  refine VRs_of_get (by simp [VRs_length h, VRs_length k]) ?_
  intro i v u hv hu
  have hl := VRs_length h
  by_cases hi : i < vs.length
  · rw [List.getElem?_append_left hi] at hv
    rw [List.getElem?_append_left (by omega)] at hu
    obtain ⟨u', h1, h2⟩ := VRs_get h hv
    rw [h1] at hu; cases hu; exact h2
  · rw [List.getElem?_append_right (by omega)] at hv
    rw [List.getElem?_append_right (by omega), hl] at hu
    obtain ⟨u', h1, h2⟩ := VRs_get k hv
    rw [h1] at hu; cases hu; exact h2

theorem VRs_s {M : Mp} (l : List Value) : VRs M (l.map .s) l := by
  refine VRs_of_get (by simp) fun i v u hv hu => ?_
  rw [List.getElem?_map, hu] at hv
  simp at hv; subst hv; simp [VR]

theorem VRs_drop_take {M : Mp} {vs : List V} {us : List Value} (h : VRs M vs us) (i k : Nat) : VRs M ((vs.drop i).take k) ((us.drop i).take k) := by
  refine VRs_of_get (by simp [VRs_length h]) fun j v u hv hu => ?_
  rw [List.getElem?_take] at hv hu
  split at hv <;> simp_all
  obtain ⟨u', h1, h2⟩ := VRs_get h hv
  rw [h1] at hu; cases hu; exact h2

theorem VR_one {M : Mp} {v : V} {u : Value} (h : VR M v u) (ho : v.one = true) : u.oneCell' = true := by
  cases v with
  | s x => simp only [VR] at h; subst h; cases u <;> simp_all [V.one, Value.oneCell']
  | ptr n g off => simp only [VR] at h; obtain ⟨a, L, rfl, _⟩ := h; rfl
  | sl n g off len cap ex sz => simp only [VR] at h; obtain ⟨a, c, L, rfl, _⟩ := h; rfl
  | fn f fst cap => simp only [VR] at h; obtain ⟨a, c, rfl, _⟩ := h; rfl
  | ifc t v => simp only [VR] at h; obtain ⟨a, rfl, _⟩ := h; rfl
  | agg cs => simp [V.one] at ho
  | tup cs => simp [V.one] at ho
  | junk => simp [V.one] at ho

theorem VR_cells {M : Mp} {v : V} {u : Value} {cs : List V} (h : VR M v u) (hc : v.cells = some cs) : VRs M cs u.cells.toList := by
  cases v with
  | s x =>
    simp only [VR] at h; subst h
    cases u <;> simp only [V.cells, Option.some.injEq] at hc <;> first
      | (subst hc; simp [VRs, VR, Value.cells]; done)
      | (subst hc; simpa [Value.cells] using VRs_s _)
      | (simp at hc)
  | ptr n g off => simp only [V.cells, Option.some.injEq] at hc; subst hc; simp only [VRs]; refine ⟨u, [], ?_, h, rfl⟩; simp only [VR] at h; obtain ⟨a, L, rfl, _⟩ := h; rfl
  | sl n g off len cap ex sz => simp only [V.cells, Option.some.injEq] at hc; subst hc; simp only [VRs]; refine ⟨u, [], ?_, h, rfl⟩; simp only [VR] at h; obtain ⟨a, c, L, rfl, _⟩ := h; rfl
  | fn f fst cap => simp only [V.cells, Option.some.injEq] at hc; subst hc; simp only [VRs]; refine ⟨u, [], ?_, h, rfl⟩; simp only [VR] at h; obtain ⟨a, c, rfl, _⟩ := h; rfl
  | ifc t v => simp only [V.cells, Option.some.injEq] at hc; subst hc; simp only [VRs]; refine ⟨u, [], ?_, h, rfl⟩; simp only [VR] at h; obtain ⟨a, rfl, _⟩ := h; rfl
  | agg cs' => simp only [V.cells, Option.some.injEq] at hc; subst hc; simp only [VR] at h; obtain ⟨us, rfl, h⟩ := h; simpa [Value.cells] using h
  | tup cs => simp [V.cells] at hc
  | junk => simp [V.cells] at hc

/-! ### Lists with a stretch written over -/

theorem splice_length : ∀ (vs : List V) (cs : List V) (i : Nat), (splice cs i vs).length = cs.length
  | [], cs, i => rfl
  | v :: vs, cs, i => by simp only [splice]; rw [splice_length vs]; simp

theorem splice_get : ∀ (vs : List V) (cs : List V) (i j : Nat), i + vs.length ≤ cs.length → (splice cs i vs)[j]? = if i ≤ j ∧ j < i + vs.length then vs[j - i]? else cs[j]?
  | [], cs, i, j, h => by simp only [splice]; rw [if_neg (by simp)]
  | v :: vs, cs, i, j, h => by
    simp only [splice, List.length_cons] at h ⊢
    rw [splice_get vs (cs.set i v) (i + 1) j (by simp; omega)]
    by_cases h1 : i + 1 ≤ j ∧ j < i + 1 + vs.length
    · rw [if_pos h1, if_pos (by omega)]
      rw [show j - i = (j - (i + 1)) + 1 from by omega]; rfl
    · rw [if_neg h1]
      by_cases h2 : i = j
      · subst h2
        rw [if_pos (by omega)]
        rw [List.getElem?_set_self (by omega)]; simp
      · rw [List.getElem?_set_ne h2, if_neg (by omega)]

def spliceA : Array Value → Nat → List Value → Array Value
  | c, _, [] => c
  | c, i, u :: us => spliceA (c.setIfInBounds i u) (i + 1) us

theorem spliceA_size : ∀ (us : List Value) (c : Array Value) (i : Nat), (spliceA c i us).size = c.size
  | [], c, i => rfl
  | u :: us, c, i => by simp only [spliceA]; rw [spliceA_size us]; simp

theorem spliceA_get : ∀ (us : List Value) (c : Array Value) (i j : Nat), i + us.length ≤ c.size → (spliceA c i us)[j]? = if i ≤ j ∧ j < i + us.length then us[j - i]? else c[j]?
  | [], c, i, j, h => by simp only [spliceA]; rw [if_neg (by simp)]
  | u :: us, c, i, j, h => by
    simp only [spliceA, List.length_cons] at h ⊢
    rw [spliceA_get us (c.setIfInBounds i u) (i + 1) j (by simp; omega)]
    by_cases h1 : i + 1 ≤ j ∧ j < i + 1 + us.length
    · rw [if_pos h1, if_pos (by omega)]
      rw [show j - i = (j - (i + 1)) + 1 from by omega]; rfl
    · rw [if_neg h1]
      by_cases h2 : i = j
      · subst h2
        rw [if_pos (by omega)]
        simp [show i < c.size by omega]
      · rw [if_neg (by omega)]
        simp [Array.getElem?_setIfInBounds, h2]

def setCells : World → Nat → Nat → List Value → World
  | w, _, _, [] => w
  | w, b, off, u :: us => setCells (w.setCell ⟨b, off, none⟩ u) b (off + 1) us

theorem heap_setCell (w : World) (b off : Nat) (u : Value) (c : Array Value) (e : TypeId) (fz : Nat × Nat) (h : w.heap[b]? = some (.cells c e fz)) :
    (w.setCell ⟨b, off, none⟩ u).heap[b]? = some (.cells (c.setIfInBounds off u) e fz) := by
  simp [World.setCell, Array.getElem?_modify, h]

theorem heap_setCells : ∀ (us : List Value) (w : World) (b off : Nat) (c : Array Value) (e : TypeId) (fz : Nat × Nat), w.heap[b]? = some (.cells c e fz) →
    (setCells w b off us).heap[b]? = some (.cells (spliceA c off us) e fz)
  | [], w, b, off, c, e, fz, h => by simpa [setCells, spliceA] using h
  | u :: us, w, b, off, c, e, fz, h => by
    simp only [setCells, spliceA]
    exact heap_setCells us _ b (off + 1) _ e fz (heap_setCell w b off u c e fz h)

theorem heap_setCells_other : ∀ (us : List Value) (w : World) (b off k : Nat), k ≠ b → (setCells w b off us).heap[k]? = w.heap[k]?
  | [], w, b, off, k, h => rfl
  | u :: us, w, b, off, k, h => by
    simp only [setCells]
    rw [heap_setCells_other us _ b (off + 1) k h, Below.heap_setCell _ _ _ _ h]

theorem size_setCells : ∀ (us : List Value) (w : World) (b off : Nat), (setCells w b off us).heap.size = w.heap.size
  | [], w, b, off => rfl
  | u :: us, w, b, off => by simp only [setCells]; rw [size_setCells us]; simp

theorem Below_setCells : ∀ (us : List Value) (w0 w : World) (b off B : Nat), Below B w0 w → B ≤ b → Below B w0 (setCells w b off us)
  | [], w0, w, b, off, B, h, hb => h
  | u :: us, w0, w, b, off, B, h, hb => by
    simp only [setCells]
    exact Below_setCells us w0 _ b (off + 1) B (h.setCell (by simpa using hb) u) hb

theorem cell_of_heap {w : World} {b : Nat} {c : Array Value} {e : TypeId} {fz : Nat × Nat} (h : w.heap[b]? = some (.cells c e fz)) (off : Nat) :
    w.cell? ⟨b, off, none⟩ = c[off]? := by simp [World.cell?, h]

theorem frozen_of_heap {w : World} {b : Nat} {c : Array Value} {e : TypeId} (h : w.heap[b]? = some (.cells c e (0, 0))) (off : Nat) :
    w.frozen? ⟨b, off, none⟩ = false := by simp [World.frozen?, h]

theorem add_none (b off n : Nat) : (⟨b, off, none⟩ : Addr).add n = ⟨b, off + n, none⟩ := by
  unfold Addr.add; split
  · rename_i h; subst h; rfl
  · rfl

theorem run_storeCells_row (P : Program) : ∀ (us : List Value) (w : World) (b off i : Nat) (c : Array Value) (e : TypeId),
    w.heap[b]? = some (.cells c e (0, 0)) → off + i + us.length ≤ c.size → (∀ u ∈ us, u.oneCell' = true) →
    (storeCells ⟨b, off, none⟩ us i).run P w = .ok () (setCells w b (off + i) us)
  | [], w, b, off, i, c, e, h, hl, ho => by simp [storeCells, setCells]
  | u :: us, w, b, off, i, c, e, h, hl, ho => by
    simp only [List.length_cons] at hl
    have hc : w.cell? ⟨b, off + i, none⟩ = some (c[off + i]'(by omega)) := by
      rw [cell_of_heap h]; simp [show off + i < c.size by omega]
    have ih := run_storeCells_row P us (w.setCell ⟨b, off + i, none⟩ u) b off (i + 1) _ e (heap_setCell w b (off + i) u c e (0, 0) h) (by simp; omega) (fun x hx => ho x (List.mem_cons_of_mem _ hx))
    simp only [storeCells, Sem.run_bind, add_none, run_store P w _ _ _ (ho u (List.mem_cons_self ..)), hc, frozen_of_heap h, setCells, Result.andThen_ok]
    simpa [Nat.add_assoc] using ih

/-! ### The relation -/

structure Rel (w0 : World) (M : Mp) (H : Hp) (w : World) : Prop where
  below : Below w0.heap.size w0 w
  blk : ∀ n b, H.get n = some b → ∃ L c e fz, M n = some L ∧ L.g = b.g ∧ w.heap[L.b]? = some (.cells c e fz) ∧ c.size = L.msz ∧ L.base + b.cells.length ≤ L.msz ∧
    (∀ i v, b.cells[i]? = some v → ∃ u, c[L.base + i]? = some u ∧ VR M v u) ∧ (b.rw = true → w0.heap.size ≤ L.b ∧ fz = (0, 0))
  inj : ∀ n m b b' L L', H.get n = some b → H.get m = some b' → b.rw = true → n ≠ m → M n = some L → M m = some L' → L.b ≠ L'.b
  kind : ∀ n b L c e fz, H.get n = some b → M n = some L → w.heap[L.b]? = some (.cells c e fz) → e = b.e ∧ (b.z = true → L.base = 0)
  fresh : ∀ n, H.next ≤ n → H.get n = none ∧ M n = none
  glob : ∀ g, g < NG → ∃ L, M g = some L ∧ (L.g = 0 → L.b = g ∧ L.base = 0)

def upd (M : Mp) (n : Nat) (L : Loc) : Mp := fun k => if k = n then some L else M k

theorem upd_same (M : Mp) (n : Nat) (L : Loc) : upd M n L n = some L := by simp [upd]
theorem upd_other (M : Mp) (n k : Nat) (L : Loc) (h : k ≠ n) : upd M n L k = M k := by simp [upd, h]

theorem Rel.drew {w0 : World} {M : Mp} {H : Hp} {w : World} (h : Rel w0 M H w) : Rel w0 M H w.drew :=
  ⟨h.below.drew, h.blk, h.inj, h.kind, h.fresh, h.glob⟩

theorem Rel.put {w0 : World} {M : Mp} {H : Hp} {w w' : World} (h : Rel w0 M H w) (n : Nat) (b' : Blk) (L' : Loc) (H' : Hp) (c : Array Value) (fz' : Nat × Nat)
    (hM : Ext M (upd M n L'))
    (hg : H'.get n = some b') (hg' : ∀ m, m ≠ n → H'.get m = H.get m) (hnx : H.next ≤ H'.next) (hn : n < H'.next)
    (hw : w'.heap[L'.b]? = some (.cells c b'.e fz')) (hfz : b'.rw = true → fz' = (0, 0)) (hb0 : b'.z = true → L'.base = 0) (hc : c.size = L'.msz) (hLg : L'.g = b'.g)
    (hlen : L'.base + b'.cells.length ≤ L'.msz) (hcells : ∀ i v, b'.cells[i]? = some v → ∃ u, c[L'.base + i]? = some u ∧ VR (upd M n L') v u)
    (hoth : ∀ k, k ≠ L'.b → k < w.heap.size → w'.heap[k]? = w.heap[k]?)
    (hloc : w0.heap.size ≤ L'.b) (hown : (∃ b L, H.get n = some b ∧ b.rw = true ∧ M n = some L ∧ L.b = L'.b) ∨ w.heap.size ≤ L'.b)
    (hb : Below w0.heap.size w0 w') : Rel w0 (upd M n L') H' w' := by
  have hlt : ∀ {m b L}, H.get m = some b → M m = some L → L.b < w.heap.size := by
    intro m b L hm hL
    obtain ⟨L2, c2, e2, fz2, q1, q2, q3, _⟩ := h.blk m b hm
    rw [hL] at q1; cases q1
    rcases Nat.lt_or_ge L.b w.heap.size with hh | hh
    · exact hh
    · rw [Array.getElem?_eq_none hh] at q3; cases q3
  have hne : ∀ {m b L}, m ≠ n → H.get m = some b → M m = some L → L.b ≠ L'.b := by
    intro m b L hmn hm hL
    rcases hown with ⟨b0, L0, p1, p2, p3, p4⟩ | hge
    · intro e; exact h.inj n m b0 b L0 L p1 hm p2 (Ne.symm hmn) p3 hL (by rw [p4, e])
    · have := hlt hm hL; omega
  refine ⟨hb, ?_, ?_, ?_, ?_, ?_⟩
  · intro m b hm
    by_cases hmn : m = n
    · subst hmn
      rw [hg] at hm; cases hm
      exact ⟨L', c, b'.e, fz', upd_same _ _ _, hLg, hw, hc, hlen, hcells, fun q => ⟨hloc, hfz q⟩⟩
    · rw [hg' m hmn] at hm
      obtain ⟨L, c2, e2, fz2, q1, q2, q3, q4, q5, q6, q7⟩ := h.blk m b hm
      refine ⟨L, c2, e2, fz2, by rw [upd_other _ _ _ _ hmn]; exact q1, q2, ?_, q4, q5, ?_, q7⟩
      · rw [hoth L.b (hne hmn hm q1) (hlt hm q1)]; exact q3
      · intro i v hv
        obtain ⟨u, u1, u2⟩ := q6 i v hv
        exact ⟨u, u1, VR.ext hM _ _ u2⟩
  · intro i j bi bj Li Lj hi hj hr hij hLi hLj
    by_cases hin : i = n
    · subst hin
      rw [upd_same] at hLi; cases hLi
      rw [upd_other _ _ _ _ (Ne.symm hij)] at hLj
      rw [hg' j (Ne.symm hij)] at hj
      exact Ne.symm (hne (Ne.symm hij) hj hLj)
    · rw [upd_other _ _ _ _ hin] at hLi
      rw [hg' i hin] at hi
      by_cases hjn : j = n
      · subst hjn
        rw [upd_same] at hLj; cases hLj
        exact hne hin hi hLi
      · rw [upd_other _ _ _ _ hjn] at hLj
        rw [hg' j hjn] at hj
        exact h.inj i j bi bj Li Lj hi hj hr hij hLi hLj
  · intro m b L c2 e2 fz2 hm hL hh
    by_cases hmn : m = n
    · subst hmn
      rw [hg] at hm; cases hm
      rw [upd_same] at hL; cases hL
      rw [hw] at hh; cases hh
      exact ⟨rfl, hb0⟩
    · rw [hg' m hmn] at hm
      rw [upd_other _ _ _ _ hmn] at hL
      rw [hoth L.b (hne hmn hm hL) (hlt hm hL)] at hh
      exact h.kind m b L c2 e2 fz2 hm hL hh
  · intro k hk
    have hkn : k ≠ n := by omega
    rw [hg' k hkn, upd_other _ _ _ _ hkn]
    exact h.fresh k (by omega)
  · intro g hg
    obtain ⟨L, h1, h2⟩ := h.glob g hg
    obtain ⟨L2, k1, k2, k3⟩ := hM g L h1
    refine ⟨L2, k1, fun e => ?_⟩
    have : L2 = L := k3 (by omega)
    subst this
    exact h2 e

theorem heap_alloc_new (w : World) (o : Obj) : (w.alloc o).heap[w.heap.size]? = some o := by
  show (w.heap.push o)[w.heap.size]? = _
  rw [Array.getElem?_push, if_pos rfl]

/-- A new block. -/
theorem Rel.alloc {w0 : World} {M : Mp} {H : Hp} {w : World} (h : Rel w0 M H w) (cs : List V) (c : Array Value) (e : TypeId)
    (hl : cs.length ≤ c.size) (hc : ∀ (i : Nat) (v : V), cs[i]? = some v → ∃ u, c[i]? = some u ∧ VR M v u) :
    Rel w0 (upd M H.next ⟨w.heap.size, 0, c.size, 0⟩) (H.alloc cs e) (w.alloc (.cells c e)) ∧ Ext M (upd M H.next ⟨w.heap.size, 0, c.size, 0⟩) := by
  have hM : Ext M (upd M H.next ⟨w.heap.size, 0, c.size, 0⟩) := by
    intro n L hn
    have : n ≠ H.next := by
      intro e; subst e; rw [(h.fresh H.next (Nat.le_refl _)).2] at hn; cases hn
    exact ⟨L, by rw [upd_other _ _ _ _ this]; exact hn, Nat.le_refl _, fun _ => rfl⟩
  refine ⟨h.put H.next ⟨cs, 0, true, e, true⟩ ⟨w.heap.size, 0, c.size, 0⟩ (H.alloc cs e) c (0, 0) hM (Hp.get_alloc_same _ _ _) (fun m hm => Hp.get_alloc_other _ _ _ _ hm) (by simp [Hp.alloc]) (by simp [Hp.alloc])
    (heap_alloc_new w _) (fun _ => rfl) (fun _ => rfl) rfl rfl (by simpa using hl) ?_ ?_ h.below.size (.inr (Nat.le_refl _)) (h.below.alloc h.below.size _), hM⟩
  · intro i v hv
    obtain ⟨u, h1, h2⟩ := hc i v hv
    exact ⟨u, by simpa using h1, VR.ext hM _ _ h2⟩
  · intro k hk hlt
    exact Below.heap_alloc _ _ _ hlt

theorem Ext_upd {M : Mp} {n : Nat} {L L' : Loc} (h : M n = some L) (hg : L.g < L'.g ∨ L' = L) : Ext M (upd M n L') := by
  intro k K hk
  by_cases e : k = n
  · subst e
    rw [h] at hk; cases hk
    refine ⟨L', upd_same _ _ _, ?_, ?_⟩
    · rcases hg with hg | hg
      · omega
      · subst hg; exact Nat.le_refl _
    · intro e
      rcases hg with hg | hg
      · omega
      · exact hg
  · exact ⟨K, by rw [upd_other _ _ _ _ e]; exact hk, Nat.le_refl _, fun _ => rfl⟩

theorem upd_self {M : Mp} {n : Nat} {L : Loc} (h : M n = some L) : upd M n L = M := by
  funext k
  by_cases e : k = n
  · subst e; rw [upd_same, h]
  · rw [upd_other _ _ _ _ e]

theorem blk_some {H : Hp} {n g : Nat} {b : Blk} (h : blk H n g = some b) : H.get n = some b ∧ b.g = g := by
  unfold blk at h
  split at h
  · split at h
    · cases h; rename_i h1 h2; exact ⟨h1, h2⟩
    · cases h
  · cases h

theorem next_gt {w0 : World} {M : Mp} {H : Hp} {w : World} (h : Rel w0 M H w) {n : Nat} {b : Blk} (hn : H.get n = some b) : n < H.next := by
  rcases Nat.lt_or_ge n H.next with k | k
  · exact k
  · rw [(h.fresh n k).1] at hn; cases hn

/-- A stretch of a block is written over. -/
theorem Rel.stores {w0 : World} {M : Mp} {H H' : Hp} {w : World} (P : Program) (h : Rel w0 M H w) {n g off : Nat} {vs : List V} {us : List Value}
    (hs : stores H n g off vs = some H') (hv : VRs M vs us) :
    ∃ L, M n = some L ∧ L.g = g ∧ Rel w0 M H' (setCells w L.b (L.base + off) us) ∧ (storeCells ⟨L.b, L.base + off, none⟩ us).run P w = .ok () (setCells w L.b (L.base + off) us) := by
  unfold Am.stores at hs
  cases hb : Am.blk H n g with
  | none => rw [hb] at hs; cases hs
  | some b =>
    rw [hb] at hs
    simp only [Option.bind_some] at hs
    split at hs
    · rename_i hq
      cases hs
      obtain ⟨hrw, hone, hlen⟩ := hq
      obtain ⟨hb, hbg⟩ := blk_some hb
      obtain ⟨L, c, e, fz, q1, q2, q3, q4, q5, q6, q7⟩ := h.blk n b hb
      obtain ⟨q8, rfl⟩ := q7 hrw
      have hul := VRs_length hv
      have hwo : ∀ u ∈ us, u.oneCell' = true := by
        intro u hu
        obtain ⟨i, hi, rfl⟩ := List.mem_iff_getElem.1 hu
        have hi' : i < vs.length := by omega
        obtain ⟨u', h1, h2⟩ := VRs_get hv (List.getElem?_eq_getElem hi')
        rw [List.getElem?_eq_getElem hi] at h1
        cases h1
        exact VR_one h2 (List.all_eq_true.1 hone _ (List.getElem_mem hi'))
      refine ⟨L, q1, q2.trans hbg, ?_, ?_⟩
      · have := h.put n ({ b with cells := splice b.cells off vs } : Blk) L (H.set n { b with cells := splice b.cells off vs }) (spliceA c (L.base + off) us) (0, 0)
          (Ext_upd q1 (.inr rfl)) (Hp.get_set_same _ _ _) (fun m hm => Hp.get_set_other _ _ _ _ hm) (by simp [Hp.set]) (by simpa [Hp.set] using next_gt h hb)
          (by have := h.kind n b L c e _ hb q1 q3; rw [← this.1]; exact heap_setCells _ _ _ _ _ _ _ q3) (fun _ => rfl) (fun q => (h.kind n b L c e _ hb q1 q3).2 q) (by rw [spliceA_size]; exact q4) q2 (by simp only [splice_length]; exact q5) ?_
          (fun k hk _ => heap_setCells_other _ _ _ _ _ hk) q8 (.inl ⟨b, L, hb, hrw, q1, rfl⟩) (Below_setCells _ _ _ _ _ _ h.below q8) (w' := setCells w L.b (L.base + off) us)
        · rw [upd_self q1] at this; exact this
        · rw [upd_self q1]
          intro i v hv'
          rw [splice_get _ _ _ _ hlen] at hv'
          rw [spliceA_get _ _ _ _ (by omega)]
          by_cases hi : off ≤ i ∧ i < off + vs.length
          · rw [if_pos hi] at hv'
            rw [if_pos (by omega)]
            obtain ⟨u, h1, h2⟩ := VRs_get hv hv'
            exact ⟨u, by rw [show L.base + i - (L.base + off) = i - off from by omega]; exact h1, h2⟩
          · rw [if_neg hi] at hv'
            rw [if_neg (by omega)]
            exact q6 i v hv'
      · have := run_storeCells_row P us w L.b (L.base + off) 0 c e q3 (by omega) hwo
        simpa using this
    · cases hs

/-- A stretch of a block is read. -/
theorem Rel.loads {w0 : World} {M : Mp} {H : Hp} {w : World} (P : Program) (h : Rel w0 M H w) {n g off k : Nat} {cs : List V} (hs : loads H n g off k = some cs) :
    ∃ L us, M n = some L ∧ L.g = g ∧ us.length = k ∧ VRs M cs us ∧ (loadCells ⟨L.b, L.base + off, none⟩ k).run P w = .ok us.toArray w ∧ (∀ (j : Nat) (v : Value), us[j]? = some v → w.cell? ⟨L.b, L.base + off + j, none⟩ = some v) := by
  unfold Am.loads at hs
  cases hb : Am.blk H n g with
  | none => rw [hb] at hs; cases hs
  | some b =>
    rw [hb] at hs
    simp only [Option.bind_some] at hs
    split at hs
    · rename_i hq
      cases hs
      obtain ⟨hb, hbg⟩ := blk_some hb
      obtain ⟨L, c, e, fz, q1, q2, q3, q4, q5, q6, q7⟩ := h.blk n b hb
      have hcell : ∀ (j : Nat) (v : Value), ((c.toList.drop (L.base + off)).take k)[j]? = some v → w.cell? ⟨L.b, L.base + off + j, none⟩ = some v := by
        intro j v hj
        rw [cell_of_heap q3]
        simp only [List.getElem?_take] at hj
        split at hj
        · simpa using hj
        · cases hj
      refine ⟨L, (c.toList.drop (L.base + off)).take k, q1, q2.trans hbg, by simp; omega, ?_, ?_, ?_⟩
      · refine VRs_of_get (by simp; omega) fun i v u hv hu => ?_
        rw [List.getElem?_take] at hv hu
        split at hv
        · rename_i hi
          rw [if_pos hi] at hu
          simp only [List.getElem?_drop] at hv hu
          obtain ⟨u', h1, h2⟩ := q6 _ _ hv
          rw [Array.getElem?_toList, Nat.add_assoc, h1] at hu
          cases hu; exact h2
        · cases hv
      · have := run_loadCells_list (P := P) w ⟨L.b, L.base + off, none⟩ ((c.toList.drop (L.base + off)).take k) (fun j v hj => by rw [add_none]; exact hcell j v (by simpa using hj))
        rwa [show ((c.toList.drop (L.base + off)).take k).length = k from by simp; omega] at this
      · intro j v hj; exact hcell j v (by simpa using hj)
    · cases hs

end Go.Am
