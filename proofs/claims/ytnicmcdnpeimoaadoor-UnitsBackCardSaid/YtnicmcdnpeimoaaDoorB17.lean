/-
  A scanner finds what stands between flags: plain law.
-/
import Derived.Test.YtnicmcdnpeimoaaDoorB16
set_option linter.unusedVariables false
set_option linter.unusedSimpArgs false
set_option maxRecDepth 100000
set_option maxHeartbeats 4000000
namespace Go.Proofs.YtnicmcdnpeimoaaDoor
open Go.Am

theorem rdsOk_append : ∀ (a b : List Nat) (s : Sc), rdsOk s a → rdsOk (a.foldl rd s) b → rdsOk s (a ++ b) := by
  intro a
  induction a with
  | nil => intro b s h k; exact k
  | cons x a ih => intro b s h k; exact ⟨h.1, ih b _ h.2 k⟩

/-- The ones behind which the stream ends. -/
def tailOnes : Nat → List Nat → Nat
  | o, [] => o
  | o, b :: r => if b = 0 then tailOnes 0 r else if o + 1 = 5 then tailOnes 0 r else tailOnes (o + 1) r
theorem tailOnes_lt : ∀ (l : List Nat) (o : Nat), o < 5 → tailOnes o l < 5 := by
  intro l
  induction l with
  | nil => intro o h; exact h
  | cons b r ih =>
    intro o h
    simp only [tailOnes]
    split
    · exact ih 0 (by omega)
    · split
      · exact ih 0 (by omega)
      · exact ih (o + 1) (by omega)

theorem read_stuffed (e : Nat) (fo : List (List Nat)) (hfo : fo.length < 2 ^ 20) : ∀ (l : List Nat) (o : Nat) (kp : List Nat), (∀ x ∈ l, x < 2) → o < 5 → kp.length + l.length ≤ 2247 →
    (stuff o l).foldl rd ⟨false, e, o, kp, fo⟩ = ⟨false, e, tailOnes o l, kp ++ l, fo⟩ ∧ rdsOk ⟨false, e, o, kp, fo⟩ (stuff o l) := by
  intro l
  induction l with
  | nil => intro o kp hb ho hl; simp [stuff, tailOnes, rdsOk]
  | cons b r ih =>
    intro o kp hb ho hl
    have hb0 := hb b (by simp)
    have hbr := fun x hx => hb x (List.mem_cons_of_mem b hx)
    simp only [List.length_cons] at hl
    by_cases h0 : b = 0
    · subst h0
      have e1 : rd ⟨false, e, o, kp, fo⟩ 0 = ⟨false, e, 0, kp ++ [0], fo⟩ := by
        have h5 : ¬ o = 5 := by omega
        have h6 : ¬ o = 6 := by omega
        simp [rd, h5, h6]
      obtain ⟨i1, i2⟩ := ih 0 (kp ++ [0]) hbr (by omega) (by simp; omega)
      simp only [stuff, if_true, List.foldl_cons, e1, tailOnes, rdsOk]
      rw [i1]
      refine ⟨by simp, ⟨by omega, by show o ≤ 6; omega, by simp, fun _ h => ?_, .inl (by show kp.length < 2247; omega), hfo⟩, i2⟩
      have : o = 6 := h
      omega
    · have h1 : b = 1 := by omega
      subst h1
      have e1 : rd ⟨false, e, o, kp, fo⟩ 1 = ⟨false, e, o + 1, kp ++ [1], fo⟩ := by simp [rd]
      have ok1 : RdOk ⟨false, e, o, kp, fo⟩ 1 := ⟨by omega, by show o ≤ 6; omega, fun _ => by show o ≤ 5; omega, fun h => (by cases h), .inl (by show kp.length < 2247; omega), hfo⟩
      by_cases h5 : o + 1 = 5
      · have e2 : rd ⟨false, e, o + 1, kp ++ [1], fo⟩ 0 = ⟨false, e, 0, kp ++ [1], fo⟩ := by simp [rd, h5]
        obtain ⟨i1, i2⟩ := ih 0 (kp ++ [1]) hbr (by omega) (by simp; omega)
        simp only [stuff, Nat.one_ne_zero, if_false, h5, if_true, List.foldl_cons, e1, tailOnes, rdsOk]
        rw [h5] at e2
        rw [e2, i1]
        refine ⟨by simp, ok1, ⟨by omega, by show 5 ≤ 6; omega, by simp, fun _ h => ?_, .inr (.inl ⟨rfl, rfl⟩), hfo⟩, i2⟩
        have : (5 : Nat) = 6 := h
        omega
      · obtain ⟨i1, i2⟩ := ih (o + 1) (kp ++ [1]) hbr (by omega) (by simp; omega)
        simp only [stuff, Nat.one_ne_zero, if_false, h5, List.foldl_cons, e1, tailOnes, rdsOk]
        rw [i1]
        exact ⟨by simp, ok1, i2⟩

/-- The seven bits that open a flag, behind bits without many ones. -/
theorem read_seven (hu : Bool) (e o : Nat) (kp : List Nat) (fo : List (List Nat)) (ho : o < 5) (hl : kp.length ≤ 2240) (hfo : fo.length < 2 ^ 20) :
    [0, 1, 1, 1, 1, 1, 1].foldl rd ⟨hu, e, o, kp, fo⟩ = ⟨hu, e, 6, kp ++ [0, 1, 1, 1, 1, 1, 1], fo⟩ ∧ rdsOk ⟨hu, e, o, kp, fo⟩ [0, 1, 1, 1, 1, 1, 1] := by
  have e0 : rd ⟨hu, e, o, kp, fo⟩ 0 = ⟨hu, e, 0, kp ++ [0], fo⟩ := by
    have h5 : ¬ o = 5 := by omega
    have h6 : ¬ o = 6 := by omega
    simp [rd, h5, h6]
  have e1 : ∀ o kp, rd ⟨hu, e, o, kp, fo⟩ 1 = ⟨hu, e, o + 1, kp ++ [1], fo⟩ := by intro o kp; simp [rd]
  have ok1 : ∀ o kp, o ≤ 5 → kp.length < 2247 → RdOk ⟨hu, e, o, kp, fo⟩ 1 := fun o kp h h' => ⟨by omega, by show o ≤ 6; omega, fun _ => h, fun h => (by cases h), .inl h', hfo⟩
  simp only [List.foldl_cons, List.foldl_nil, e0, e1, rdsOk]
  refine ⟨by simp, ⟨by omega, by show o ≤ 6; omega, by simp, fun _ h => ?_, .inl (by show kp.length < 2247; omega), hfo⟩, ok1 _ _ (by omega) (by simp; omega), ok1 _ _ (by omega) (by simp; omega), ok1 _ _ (by omega) (by simp; omega), ok1 _ _ (by omega) (by simp; omega), ok1 _ _ (by omega) (by simp; omega), ok1 _ _ (by omega) (by simp; omega), trivial⟩
  have : o = 6 := h
  omega

theorem read_flag (hu : Bool) (e : Nat) (fo : List (List Nat)) (hfo : fo.length < 2 ^ 20) :
    flagL.foldl rd ⟨hu, e, 0, [], fo⟩ = ⟨false, e, 0, [], fo⟩ ∧ rdsOk ⟨hu, e, 0, [], fo⟩ flagL := by
  obtain ⟨a, b⟩ := read_seven hu e 0 [] fo (by omega) (by simp) hfo
  have e1 : rd ⟨hu, e, 6, [0, 1, 1, 1, 1, 1, 1], fo⟩ 0 = ⟨false, e, 0, [], fo⟩ := by simp [rd, endS]
  have hfl : flagL = [0, 1, 1, 1, 1, 1, 1] ++ [0] := rfl
  rw [hfl, List.foldl_append, a]
  refine ⟨e1, rdsOk_append _ _ _ b ?_⟩
  rw [a]
  exact ⟨⟨by omega, Nat.le_refl _, by simp, fun _ _ => .inl rfl, .inr (.inr ⟨rfl, rfl⟩), hfo⟩, trivial⟩

/-- What stands between flags is found. -/
theorem read_frame (hu : Bool) (e : Nat) (fo : List (List Nat)) (hfo : fo.length < 2 ^ 20) {l : List Nat} (hb : ∀ x ∈ l, x < 256) (h5 : 5 ≤ l.length) (h280 : l.length ≤ 280) :
    (frm l).foldl rd ⟨hu, e, 0, [], fo⟩ = ⟨false, e, 0, [], fo ++ [l]⟩ ∧ rdsOk ⟨hu, e, 0, [], fo⟩ (frm l) := by
  have hlen := ofBits_length l
  obtain ⟨a1, a2⟩ := read_flag hu e fo hfo
  obtain ⟨b1, b2⟩ := read_stuffed e fo hfo (ofBits l) 0 [] (ofBits_bits l) (by omega) (by simp; omega)
  have ht := tailOnes_lt (ofBits l) 0 (by omega)
  obtain ⟨c1, c2⟩ := read_seven false e (tailOnes 0 (ofBits l)) (ofBits l) fo ht (by omega) hfo
  simp only [List.nil_append] at b1
  have e1 : rd ⟨false, e, 6, ofBits l ++ [0, 1, 1, 1, 1, 1, 1], fo⟩ 0 = ⟨false, e, 0, [], fo ++ [l]⟩ := by
    have hne : ¬ (ofBits l ++ [0, 1, 1, 1, 1, 1, 1]).length = 7 := by rw [List.length_append, hlen]; show ¬ (8 * l.length + 7 = 7); omega
    have h1 : (ofBits l ++ [0, 1, 1, 1, 1, 1, 1]).length - 7 = 8 * l.length := by simp [hlen]
    simp only [rd, endS, Nat.zero_ne_one, if_false, if_true, hne, h1]
    have h2 : (ofBits l ++ [0, 1, 1, 1, 1, 1, 1]).take (8 * l.length) = ofBits l := by rw [← hlen, List.take_left]
    rw [h2, show 8 * l.length / 8 = l.length by omega, octs_ofBits l hb]
    rfl
  have hfl : flagL = [0, 1, 1, 1, 1, 1, 1] ++ [0] := rfl
  have hend : flagL.foldl rd ⟨false, e, tailOnes 0 (ofBits l), ofBits l, fo⟩ = ⟨false, e, 0, [], fo ++ [l]⟩ ∧ rdsOk ⟨false, e, tailOnes 0 (ofBits l), ofBits l, fo⟩ flagL := by
    rw [hfl, List.foldl_append, c1]
    refine ⟨e1, rdsOk_append _ _ _ c2 ?_⟩
    rw [c1]
    refine ⟨⟨by omega, Nat.le_refl _, by simp, fun _ _ => .inr ⟨rfl, ?_, l.length, h5, h280, by simp [hlen]⟩, .inr (.inr ⟨rfl, rfl⟩), hfo⟩, trivial⟩
    intro x hx
    simp only [List.mem_append] at hx
    rcases hx with hx | hx
    · exact ofBits_bits l x hx
    · simp at hx; omega
  unfold frm
  rw [List.foldl_append, a1, List.foldl_append, b1]
  refine ⟨hend.1, rdsOk_append _ _ _ a2 ?_⟩
  rw [a1]
  refine rdsOk_append _ _ _ b2 ?_
  rw [b1]
  exact hend.2
end Go.Proofs.YtnicmcdnpeimoaaDoor
