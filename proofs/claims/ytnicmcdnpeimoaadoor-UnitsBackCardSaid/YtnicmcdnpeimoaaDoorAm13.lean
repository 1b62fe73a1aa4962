/-
  Regions whose order is open, the proof: whatever order is drawn.
-/
import Derived.Test.YtnicmcdnpeimoaaDoorAm12
import Derived.Orders
set_option linter.unusedVariables false
set_option linter.unusedSimpArgs false
namespace Go.Am
open Go.RowKit

variable {P : Program} {w0 w : World} {M : Mp} {H : Hp}

/-- i must come up ahead of j. -/
inductive Anc (ops : List Oper) : Nat → Nat → Prop
  | edge {j : Nat} {o : Oper} {e : Edge} : ops[j]? = some o → e ∈ o.after → Region.binds .any e = true → Anc ops e.on j
  | step {i j : Nat} {o : Oper} {e : Edge} : ops[j]? = some o → e ∈ o.after → Region.binds .any e = true → Anc ops i e.on → Anc ops i j

theorem mask_bit (acc : List Nat) (t : Nat) : ∀ (l : List Edge) (s : Nat),
    (l.foldl (fun s (e : Edge) => if Region.binds .any e then s ||| 2 ^ e.on ||| acc.getD e.on 0 else s) s).testBit t = true →
    s.testBit t = true ∨ ∃ e ∈ l, Region.binds .any e = true ∧ (t = e.on ∨ (acc.getD e.on 0).testBit t = true) := by
  intro l
  induction l with
  | nil => intro s h; exact .inl h
  | cons e l ih =>
    intro s h
    simp only [List.foldl_cons] at h
    rcases ih _ h with h1 | ⟨e', h1, h2, h3⟩
    · split at h1
      · rename_i hb
        simp only [Nat.testBit_or, Bool.or_eq_true] at h1
        rcases h1 with (h1 | h1) | h1
        · exact .inl h1
        · refine .inr ⟨e, List.mem_cons_self .., hb, .inl ?_⟩
          rw [Nat.testBit_two_pow] at h1
          simpa using (of_decide_eq_true h1).symm
        · exact .inr ⟨e, List.mem_cons_self .., hb, .inr h1⟩
      · exact .inl h1
    · exact .inr ⟨e', List.mem_cons_of_mem _ h1, h2, h3⟩

theorem masks_go (ops : List Oper) : ∀ (l : List Oper) (acc : List Nat), ops = ops.take acc.length ++ l → acc.length ≤ ops.length →
    (∀ j t, j < acc.length → (acc.getD j 0).testBit t = true → Anc ops t j) →
    ∀ j t, ((masks l acc).getD j 0).testBit t = true → Anc ops t j
  | [], acc, hl, hle, hacc, j, t, h => by
    simp only [masks] at h
    by_cases hj : j < acc.length
    · exact hacc j t hj h
    · rw [List.getD_eq_getElem?_getD, List.getElem?_eq_none (by omega)] at h
      simp at h
  | o :: l, acc, hl, hle, hacc, j, t, h => by
    simp only [masks] at h
    have ho : ops[acc.length]? = some o := by
      rw [hl, List.getElem?_append_right (by simp; omega)]
      simp [Nat.min_eq_left hle]
    have hlen : acc.length < ops.length := (List.getElem?_eq_some_iff.1 ho).1
    refine masks_go ops l (acc ++ [maskOf o acc]) ?_ (by simp; omega) ?_ j t h
    · simp only [List.length_append, List.length_singleton]
      rw [List.take_add_one, ho]
      conv => lhs; rw [hl]
      simp
    · intro j t hj ht
      simp only [List.length_append, List.length_singleton] at hj
      by_cases hjl : j < acc.length
      · rw [List.getD_eq_getElem?_getD, List.getElem?_append_left hjl, ← List.getD_eq_getElem?_getD] at ht
        exact hacc j t hjl ht
      · have : j = acc.length := by omega
        subst this
        rw [List.getD_eq_getElem?_getD, List.getElem?_append_right (Nat.le_refl _)] at ht
        simp only [Nat.sub_self, List.getElem?_cons_zero, Option.getD_some] at ht
        unfold maskOf at ht
        rcases mask_bit acc t _ _ ht with h1 | ⟨e, h1, h2, h3⟩
        · simp at h1
        · have h1' : e ∈ o.after := by simpa using h1
          rcases h3 with rfl | h3
          · exact .edge ho h1' h2
          · by_cases he : e.on < acc.length
            · exact .step ho h1' h2 (hacc _ _ he h3)
            · rw [List.getD_eq_getElem?_getD, List.getElem?_eq_none (by omega)] at h3
              simp at h3

theorem masks_anc (ops : List Oper) (j t : Nat) (h : ((masks ops []).getD j 0).testBit t = true) : Anc ops t j :=
  masks_go ops ops [] (by simp) (by simp) (fun j t hj _ => by simp at hj) j t h

/-- The states of the run in the order of the text. -/
theorem adr_spec {call : Caller} (ops : List Oper) : ∀ (l : List Oper) (ρ ρ' : List V) (H H' : Hp) (tr : List (List V × Hp × Bool × V)), adr P call ops l ρ H = some (tr, ρ', H') →
    tr.length = l.length ∧ ∃ (R : Nat → List V) (Hs : Nat → Hp) (bs : Nat → Bool) (vs : Nat → V), R 0 = ρ ∧ Hs 0 = H ∧ R l.length = ρ' ∧ Hs l.length = H' ∧
      ∀ (i : Nat) (o : Oper), l[i]? = some o → tr[i]? = some (R i, Hs i, bs i, vs i) ∧ gstep P call ops (R i) (Hs i) o = some (bs i, vs i, Hs (i + 1)) ∧ R (i + 1) = put (R i) o.dst (vs i)
  | [], ρ, ρ', H, H', tr, h => by
    simp only [adr] at h; cases h
    exact ⟨rfl, fun _ => ρ, fun _ => H, fun _ => false, fun _ => .junk, rfl, rfl, rfl, rfl, fun i o ho => by simp at ho⟩
  | o :: l, ρ, ρ', H, H', tr, h => by
    simp only [adr] at h
    obtain ⟨⟨b, v, H2⟩, h1, ha⟩ := obind h
    clear h
    dsimp only at ha
    obtain ⟨⟨tr', ρ2, H3⟩, h2, h3⟩ := obind ha
    clear ha
    cases h3
    obtain ⟨hl, R, Hs, bs, vs, r1, r2, r3, r4, r5⟩ := adr_spec ops l _ _ _ _ _ h2
    refine ⟨by simp [hl], fun n => match n with | 0 => ρ | n + 1 => R n, fun n => match n with | 0 => H | n + 1 => Hs n, fun n => match n with | 0 => b | n + 1 => bs n, fun n => match n with | 0 => v | n + 1 => vs n, rfl, rfl, r3, r4, ?_⟩
    intro i q hq
    cases i with
    | zero =>
      simp only [List.getElem?_cons_zero, Option.some.injEq] at hq
      subst hq
      exact ⟨rfl, by dsimp only; rw [r2]; exact h1, r1⟩
    | succ i =>
      simp only [List.getElem?_cons_succ] at hq
      exact r5 i q hq

/-- The registers when just the operations of S have been done. -/
def RS (l : List Oper) (vs : Nat → V) (S : Nat → Bool) (ρ : List V) : Nat → List V
  | 0 => ρ
  | i + 1 => match l[i]? with
    | some o => if S i then put (RS l vs S ρ i) o.dst (vs i) else RS l vs S ρ i
    | none => RS l vs S ρ i

theorem put_length (ρ : List V) (d : Option Tmp) (v : V) : (put ρ d v).length = ρ.length := by cases d <;> simp [put]

theorem put_get_other (ρ : List V) (d : Option Tmp) (v : V) (t : Nat) (h : d ≠ some t) : (put ρ d v)[t]? = ρ[t]? := by
  cases d with
  | none => rfl
  | some d =>
    simp only [put]
    rw [List.getElem?_set_ne (fun e => h (by rw [e]))]

theorem RS_later {l : List Oper} {vs : Nat → V} {S : Nat → Bool} {ρ : List V} {t n : Nat} : ∀ m, (∀ k o, n ≤ k → k < n + m → S k = true → l[k]? = some o → o.dst ≠ some t) →
    (RS l vs S ρ (n + m))[t]? = (RS l vs S ρ n)[t]? := by
  intro m
  induction m with
  | zero => intro _; rfl
  | succ m ih =>
    intro h
    rw [← ih (fun k o h1 h2 => h k o h1 (by omega))]
    rw [← Nat.add_assoc]
    simp only [RS]
    cases ho : l[n + m]? with
    | none => rfl
    | some o =>
      dsimp only
      split
      · rename_i hs
        exact put_get_other _ _ _ _ (h (n + m) o (by omega) (by omega) hs ho)
      · rfl

theorem RS_full {l : List Oper} {vs : Nat → V} {S : Nat → Bool} {ρ : List V} {R : Nat → List V} (h0 : R 0 = ρ) (hR : ∀ i o, l[i]? = some o → R (i + 1) = put (R i) o.dst (vs i)) {t : Nat} :
    ∀ n, n ≤ l.length → (∀ k o, k < n → l[k]? = some o → o.dst = some t → S k = true) → (RS l vs S ρ n)[t]? = (R n)[t]? ∧ (RS l vs S ρ n).length = (R n).length := by
  intro n
  induction n with
  | zero => intro _ _; simp only [RS, h0, and_self]
  | succ n ih =>
    intro hn h
    obtain ⟨i1, i2⟩ := ih (by omega) (fun k o hk => h k o (by omega))
    have ho : l[n]? = some l[n] := List.getElem?_eq_getElem (by omega)
    rw [hR n _ ho]
    simp only [RS, ho]
    by_cases hs : S n = true
    · rw [if_pos hs]
      refine ⟨?_, by rw [put_length, put_length, i2]⟩
      by_cases hd : l[n].dst = some t
      · rw [hd]
        simp only [put, List.getElem?_set, i2]
        simp
      · rw [put_get_other _ _ _ _ hd, put_get_other _ _ _ _ hd, i1]
    · rw [if_neg hs]
      have hd : l[n].dst ≠ some t := fun e => hs (h n _ (by omega) ho e)
      exact ⟨by rw [put_get_other _ _ _ _ hd, i1], by rw [put_length, i2]⟩

theorem put_put (ρ : List V) (d e : Option Tmp) (v u : V) (h : ∀ t, d = some t → e ≠ some t) : put (put ρ d v) e u = put (put ρ e u) d v := by
  cases d with
  | none => rfl
  | some d =>
    cases e with
    | none => rfl
    | some e =>
      simp only [put]
      exact List.set_comm _ _ (fun q => h d rfl (by rw [q]))

theorem RS_add {l : List Oper} {vs : Nat → V} {S : Nat → Bool} {ρ : List V} {i : Nat} {o : Oper} (ho : l[i]? = some o) (hi : S i = false)
    (hc : ∀ k q, i < k → l[k]? = some q → S k = true → ∀ t, o.dst = some t → q.dst ≠ some t) :
    (∀ n, n ≤ i → RS l vs (fun k => decide (k = i) || S k) ρ n = RS l vs S ρ n) ∧
    ∀ m, RS l vs (fun k => decide (k = i) || S k) ρ (i + 1 + m) = put (RS l vs S ρ (i + 1 + m)) o.dst (vs i) := by
  have h1 : ∀ n, n ≤ i → RS l vs (fun k => decide (k = i) || S k) ρ n = RS l vs S ρ n := by
    intro n
    induction n with
    | zero => intro _; rfl
    | succ n ih =>
      intro hn
      simp only [RS, ih (by omega), show (decide (n = i)) = false from by simp; omega, Bool.false_or]
  refine ⟨h1, ?_⟩
  intro m
  induction m with
  | zero =>
    simp only [Nat.add_zero, RS, ho, h1 i (Nat.le_refl _), decide_true, Bool.true_or, if_true, hi, Bool.false_eq_true, if_false]
  | succ m ih =>
    rw [← Nat.add_assoc]
    simp only [RS]
    rw [ih]
    cases hq : l[i + 1 + m]? with
    | none => rfl
    | some q =>
      dsimp only
      have : (decide (i + 1 + m = i)) = false := by simp; omega
      simp only [this, Bool.false_or]
      by_cases hs : S (i + 1 + m) = true
      · rw [if_pos hs, if_pos hs]
        exact put_put _ _ _ _ _ (hc (i + 1 + m) q (by omega) hq hs)
      · rw [if_neg hs, if_neg hs]

end Go.Am
