/-
  append, for any kind of elements.
-/
import Derived.Test.YtnicmcdnpeimoaaDoorAm19
set_option linter.unusedVariables false
set_option linter.unusedSimpArgs false
namespace Go.Am

theorem splice_mid : ∀ (vs pre mid post : List V), mid.length = vs.length → splice (pre ++ (mid ++ post)) pre.length vs = pre ++ (vs ++ post) := by
  intro vs
  induction vs with
  | nil => intro pre mid post h; cases mid <;> simp_all [splice]
  | cons v vs ih =>
    intro pre mid post h
    cases mid with
    | nil => simp at h
    | cons c cs =>
      simp only [splice]
      have := ih (pre ++ [v]) cs post (by simpa using h)
      simp only [List.length_append, List.length_cons, List.length_nil, List.append_assoc, List.cons_append, List.nil_append] at this
      simpa using this

/-- A slice type with its elements: their size and their bytes. -/
structure Elt (P : Program) (t e sz by' : Nat) : Prop where
  under : P.underlying t = some (.slice e)
  info0 : ∃ i, P.info? e = some i ∧ (i.zero.map fun z => z.cells.size) = some sz ∧ i.size = sz ∧ i.bytes = by'
  pos : 0 < sz
  small : by' ≤ 65536

theorem Elt.info {P : Program} {t e sz by' : Nat} (h : Elt P t e sz by') : ∃ i z, P.info? e = some i ∧ i.zero = some z ∧ z.cells.size = i.size ∧ i.size = sz ∧ i.bytes = by' := by
  obtain ⟨i, h1, h2, h3, h4⟩ := h.info0
  cases hz : i.zero with
  | none => rw [hz] at h2; cases h2
  | some z => rw [hz] at h2; exact ⟨i, z, h1, hz, by simp only [Option.map_some, Option.some.injEq] at h2; omega, h3, h4⟩

section
variable {P : Program} {t e sz bt : Nat} (hT : Elt P t e sz bt) {H : Hp} {x : V} {k : Nat} {new : List V} (hf : flen x = some k) (hc : firstCells H sz x = some new) (h1 : new.all V.one = true) (hk : k < 2 ^ 30)
include hT hf hc h1 hk

theorem app_nilG (h0 : 0 < k) : vbuiltin P H .append #[t, t] [.s (.slice none 0 0), x] = some (.sl H.next 0 0 k 0 false sz, H.alloc new e) := by
  obtain ⟨i, z, i1, i2, i3, i4, i5⟩ := hT.info
  have hs := hT.small
  have hp := hT.pos
  have hb : k * bt ≤ 2 ^ 47 := by
    have := Nat.mul_le_mul (Nat.le_of_lt hk) hs
    omega
  have hn : vnew P H i z (.slice e) x = some (k, new) := by
    unfold vnew
    simp only [hf, i4, hc, Option.bind_some]
  simp only [vbuiltin, vappend, List.getElem?_toArray, List.getElem?_cons_zero, List.getElem?_cons_succ, Option.bind_some, hT.under, i1, i2, hn]
  rw [if_neg (by omega), if_neg (by omega), if_pos ⟨by rw [i5]; exact hb, by omega, h1⟩, i4]

theorem app_inG {n g len : Nat} {old mid post : List V} {z' : Bool} {cap : Nat} (ho : H.get n = some ⟨old ++ (mid ++ post), g, true, e, z'⟩) (hl : old.length = len * sz) (hm : mid.length = new.length) (hn : new.length = k * sz) :
    vbuiltin P H .append #[t, t] [.sl n g 0 len cap false sz, x] = some (.sl n g 0 (len + k) 0 false sz, H.set n ⟨old ++ (new ++ post), g, true, e, z'⟩) := by
  have _ := hk
  obtain ⟨i, z, i1, i2, i3, i4, i5⟩ := hT.info
  have hp := hT.pos
  have hb : blk H n g = some ⟨old ++ (mid ++ post), g, true, e, z'⟩ := blk_of ho rfl
  have hv : vnew P H i z (.slice e) x = some (k, new) := by
    unfold vnew
    simp only [hf, i4, hc, Option.bind_some]
  have hst : stores H n g old.length new = some (H.set n ⟨old ++ (new ++ post), g, true, e, z'⟩) := by
    unfold stores
    rw [hb]
    simp only [Option.bind_some, h1, true_and]
    rw [if_pos (by simp; omega), splice_mid _ _ _ _ hm]
  simp only [vbuiltin, vappend, List.getElem?_toArray, List.getElem?_cons_zero, List.getElem?_cons_succ, Option.bind_some, hT.under, i1, i2, hv, hb]
  rw [if_neg (by omega)]
  simp only [Option.bind_some, Bool.false_eq_true, if_false, Nat.zero_add]
  rw [if_neg (by omega), if_pos (by simp only [List.length_append, hl, hm, hn, Nat.add_mul]; omega), ← hl, hst]
  rfl

theorem app_mvG {n g len : Nat} {old : List V} {z' : Bool} {cap : Nat} (ho : H.get n = some ⟨old, g, true, e, z'⟩) (hl : old.length = len * sz) (h0 : 0 < k) (hlen : len < 2 ^ 30) :
    vbuiltin P H .append #[t, t] [.sl n g 0 len cap false sz, x] = some (.sl n (g + 1) 0 (len + k) 0 false sz, H.set n ⟨old ++ new, g + 1, true, e, z'⟩) := by
  obtain ⟨i, z, i1, i2, i3, i4, i5⟩ := hT.info
  have hp := hT.pos
  have hs := hT.small
  have hbt : (len + k) * bt ≤ 2 ^ 47 := by
    have : (len + k) * bt ≤ 2 ^ 31 * 65536 := Nat.mul_le_mul (by omega) hs
    omega
  have hks : 0 < k * sz := Nat.mul_pos h0 hp
  have hb : blk H n g = some ⟨old, g, true, e, z'⟩ := blk_of ho rfl
  have hv : vnew P H i z (.slice e) x = some (k, new) := by
    unfold vnew
    simp only [hf, i4, hc, Option.bind_some]
  simp only [vbuiltin, vappend, List.getElem?_toArray, List.getElem?_cons_zero, List.getElem?_cons_succ, Option.bind_some, hT.under, i1, i2, hv, hb]
  rw [if_neg (by omega)]
  simp only [Option.bind_some, Bool.false_eq_true, if_false, Nat.zero_add, List.drop_zero, beq_self_eq_true, Bool.and_true]
  rw [if_neg (by omega), if_neg (by rw [Nat.add_mul]; omega), if_pos ⟨hl.symm, trivial, h1, by rw [i5]; exact hbt, by omega, trivial⟩]

theorem app_exG {n g off len cap : Nat} {old : List V} (ho : loads H n g off (len * sz) = some old) (hcap : cap < len + k) (hlen : len < 2 ^ 30) :
    vbuiltin P H .append #[t, t] [.sl n g off len cap true sz, x] = some (.sl H.next 0 0 (len + k) 0 false sz, H.alloc (old ++ new) e) := by
  have _ := h1
  obtain ⟨i, z, i1, i2, i3, i4, i5⟩ := hT.info
  have hp := hT.pos
  have hs := hT.small
  have hbt : (len + k) * bt ≤ 2 ^ 47 := by
    have : (len + k) * bt ≤ 2 ^ 31 * 65536 := Nat.mul_le_mul (by omega) hs
    omega
  have hv : vnew P H i z (.slice e) x = some (k, new) := by
    unfold vnew
    simp only [hf, i4, hc, Option.bind_some]
  obtain ⟨b, hb, _⟩ := of_loads ho
  simp only [vbuiltin, vappend, List.getElem?_toArray, List.getElem?_cons_zero, List.getElem?_cons_succ, Option.bind_some, hT.under, i1, i2, hv, hb]
  rw [if_neg (by omega)]
  simp only [Option.bind_some, if_true, ho]
  rw [if_neg (by omega), if_neg (by omega), if_pos ⟨by rw [i5]; exact hbt, by omega⟩]
end
end Go.Am
