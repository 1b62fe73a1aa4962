/-
  The beginning: an abstract heap that only reads what stands in memory.
-/
import Derived.Test.YtnicmcdnpeimoaaDoorAm21
set_option linter.unusedVariables false
set_option linter.unusedSimpArgs false
namespace Go.Am
open Go.RowKit

theorem rel_start {w : World} {H : Hp} {M : Mp}
    (hb : ∀ n b, H.get n = some b → b.rw = false ∧ b.z = false ∧ b.g = 0 ∧ ∃ L c e fz, M n = some L ∧ L.g = 0 ∧ w.heap[L.b]? = some (.cells c e fz) ∧ c.size = L.msz ∧ L.base + b.cells.length ≤ L.msz ∧ e = b.e ∧
      ∀ i v, b.cells[i]? = some v → ∃ x, v = .s x ∧ c[L.base + i]? = some x)
    (hf : ∀ n, H.next ≤ n → H.get n = none ∧ M n = none) (hg : ∀ g, g < NG → ∃ L, M g = some L ∧ (L.g = 0 → L.b = g ∧ L.base = 0)) : Rel w M H w := by
  refine ⟨Below.refl _ _, ?_, ?_, ?_, hf, hg⟩
  · intro n b hn
    obtain ⟨h1, h2, h3, L, c, e, fz, q1, q2, q3, q4, q5, q6, q7⟩ := hb n b hn
    refine ⟨L, c, e, fz, q1, by rw [q2, h3], q3, q4, q5, ?_, fun hr => by rw [h1] at hr; cases hr⟩
    intro i v hi
    obtain ⟨x, rfl, hx⟩ := q7 i v hi
    exact ⟨x, hx, by simp [VR]⟩
  · intro n m b b' L L' h1 h2 h3
    rw [(hb n b h1).1] at h3; cases h3
  · intro n b L c e fz hn hL hw
    obtain ⟨h1, h2, h3, L', c', e', fz', q1, q2, q3, q4, q5, q6, q7⟩ := hb n b hn
    rw [hL] at q1; cases q1
    rw [hw] at q3; cases q3
    exact ⟨q6, fun hz => by rw [h2] at hz; cases hz⟩

theorem Hp.get_set_at {t : Tr Blk} {nx n : Nat} {b : Blk} (m : Nat) : ({ t := t.set n (some b), next := nx } : Hp).get m = if m = n then some b else t.get m := by
  unfold Hp.get
  by_cases h : m = n
  · subst h; rw [if_pos rfl]; exact Tr.get_set_same _ _ _
  · rw [if_neg h]; exact Tr.get_set_other _ _ _ _ h
end Go.Am
