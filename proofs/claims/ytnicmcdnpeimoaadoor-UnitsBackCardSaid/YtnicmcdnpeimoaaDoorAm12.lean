/-
  Regions whose order is open: every order that the edges allow gives what the order of the text gives, if the checks of the abstract machine pass.
-/
import Derived.Test.YtnicmcdnpeimoaaDoorAm11
set_option linter.unusedVariables false
set_option linter.unusedSimpArgs false
namespace Go.Am
open Go.RowKit

variable {P : Program} {w0 w : World} {M : Mp} {H : Hp}

/-! ### Equality of values, as it is computed -/

theorem seq_eq {a b : Value} (h : seq a b = true) : a = b := by
  unfold seq at h
  split at h <;> (try (cases h; done)) <;> (try rfl)
  · simp only [Bool.and_eq_true, decide_eq_true_eq] at h; rw [h.1, h.2]
  · simp only [decide_eq_true_eq] at h; rw [h]
  · rename_i x y
    simp only [decide_eq_true_eq] at h
    congr 1
    have : x.data = y.data := Array.ext' h
    cases x; cases y; simp_all
  · simp only [Bool.and_eq_true, decide_eq_true_eq] at h; rw [h.1, h.2]

mutual
theorem V.beq_eq : ∀ (a b : V), V.beq a b = true → a = b
  | .s a, b => fun h => by cases b <;> simp only [V.beq, Bool.false_eq_true] at h; rw [seq_eq h]
  | .ptr n g o, b => fun h => by
    cases b <;> simp only [V.beq, Bool.false_eq_true, Bool.and_eq_true, decide_eq_true_eq] at h
    obtain ⟨⟨h1, h2⟩, h3⟩ := h; subst h1 h2 h3; rfl
  | .sl n g o l c e z, b => fun h => by
    cases b <;> simp only [V.beq, Bool.false_eq_true, Bool.and_eq_true, decide_eq_true_eq] at h
    obtain ⟨⟨⟨⟨⟨⟨h1, h2⟩, h3⟩, h4⟩, h5⟩, h6⟩, h7⟩ := h; subst h1 h2 h3 h4 h5 h6 h7; rfl
  | .fn f a c, b => fun h => by
    cases b <;> simp only [V.beq, Bool.false_eq_true, Bool.and_eq_true, decide_eq_true_eq] at h
    rw [h.1.1, V.beqs_eq _ _ h.1.2, V.beqs_eq _ _ h.2]
  | .ifc t v, b => fun h => by
    cases b <;> simp only [V.beq, Bool.false_eq_true, Bool.and_eq_true, decide_eq_true_eq] at h
    rw [h.1, V.beq_eq _ _ h.2]
  | .agg c, b => fun h => by
    cases b <;> simp only [V.beq, Bool.false_eq_true] at h
    rw [V.beqs_eq _ _ h]
  | .tup c, b => fun h => by cases b <;> simp only [V.beq, Bool.false_eq_true] at h
  | .junk, b => fun h => by cases b <;> simp only [V.beq, Bool.false_eq_true] at h
theorem V.beqs_eq : ∀ (a b : List V), V.beqs a b = true → a = b
  | [], b => fun h => by cases b <;> simp only [V.beqs, Bool.false_eq_true] at h; rfl
  | x :: a, b => fun h => by
    cases b <;> simp only [V.beqs, Bool.false_eq_true, Bool.and_eq_true] at h
    rw [V.beq_eq _ _ h.1, V.beqs_eq _ _ h.2]
end

/-! ### What an operation looks at -/

theorem map_ev_congr {ρ σ : List V} (l : List Operand) (h : ∀ x ∈ l, ev ρ x = ev σ x) : l.map (ev ρ) = l.map (ev σ) := List.map_congr_left h

theorem opt_ev_congr {ρ σ : List V} (o : Option Operand) (h : ∀ x ∈ o.toArray, ev ρ x = ev σ x) : o.map (ev ρ) = o.map (ev σ) := by
  cases o with
  | none => rfl
  | some x => simp only [Option.map_some]; rw [h x (by simp)]

theorem parts_ev_congr {ρ σ : List V} (l : List (Nat × Operand)) (h : ∀ x ∈ l.map (·.2), ev ρ x = ev σ x) : (l.map fun (i, x) => (i, ev ρ x)) = (l.map fun (i, x) => (i, ev σ x)) := by
  refine List.map_congr_left fun p hp => ?_
  obtain ⟨i, x⟩ := p
  dsimp only
  rw [h x (List.mem_map.2 ⟨(i, x), hp, rfl⟩)]

theorem aop_congr {ρ σ : List V} (H : Hp) (o : Op) (h : ∀ x ∈ o.operands, ev ρ x = ev σ x) : aop P ρ H o = aop P σ H o := by
  cases o <;> simp only [aop] <;> (try rfl)
  case move x => rw [h x (by simp [Op.operands])]
  case assign x => rw [h x (by simp [Op.operands])]
  case pick c a b => rw [h c (by simp [Op.operands]), h a (by simp [Op.operands]), h b (by simp [Op.operands])]
  case box e x => rw [h x (by simp [Op.operands])]
  case build t ps => rw [parts_ev_congr ps.toList (fun x hx => h x (by simpa [Op.operands] using hx))]
  case buildSlice t len ps => rw [parts_ev_congr ps.toList (fun x hx => h x (by simpa [Op.operands] using hx))]
  case load t x => rw [h x (by simp [Op.operands])]
  case store t x y => rw [h x (by simp [Op.operands]), h y (by simp [Op.operands])]
  case nilCheck x => rw [h x (by simp [Op.operands])]
  case binOp op t x y ty => rw [h x (by simp [Op.operands]), h y (by simp [Op.operands])]
  case unOp op t x => rw [h x (by simp [Op.operands])]
  case convert s d x => rw [h x (by simp [Op.operands])]
  case makeInterface t x => rw [h x (by simp [Op.operands])]
  case makeFunc fn first cap =>
    cases fn <;> try rfl
    simp only
    rw [map_ev_congr cap.toList (fun x hx => h x (by simp [Op.operands]; exact .inr (by simpa using hx))),
      map_ev_congr first.toList (fun x hx => h x (by simp [Op.operands]; exact .inl (by simpa using hx)))]
  case makeSlice t x y => rw [h x (by simp [Op.operands]), h y (by simp [Op.operands])]
  case slice t x lo hi mx =>
    rw [h x (by simp [Op.operands]), opt_ev_congr lo (fun y hy => h y (by simp [Op.operands] at hy ⊢; simp [hy])), opt_ev_congr hi (fun y hy => h y (by simp [Op.operands] at hy ⊢; simp [hy])),
      opt_ev_congr mx (fun y hy => h y (by simp [Op.operands] at hy ⊢; simp [hy]))]
  case fieldAddr s x f => rw [h x (by simp [Op.operands])]
  case field s x f => rw [h x (by simp [Op.operands])]
  case indexAddr t x i => rw [h x (by simp [Op.operands]), h i (by simp [Op.operands])]
  case index t x i => rw [h x (by simp [Op.operands]), h i (by simp [Op.operands])]
  case extract x i => rw [h x (by simp [Op.operands])]
  case call c =>
    obtain ⟨callee, args, ats⟩ := c
    cases callee <;> try rfl
    simp only
    rw [map_ev_congr args.toList (fun x hx => h x (by simp [Op.operands, Call.operands]; simpa using hx))]

theorem callee_congr {ρ σ : List V} (H : Hp) (c : Call) (h : ∀ x ∈ c.operands, ev ρ x = ev σ x) : acallee P ρ H c = acallee P σ H c := by
  obtain ⟨callee, args, ats⟩ := c
  have ha : args.toList.map (ev ρ) = args.toList.map (ev σ) := map_ev_congr args.toList (fun x hx => h x (by simp [Call.operands]; exact .inr (by simpa using hx)))
  cases callee with
  | builtin b => rfl
  | value f => simp only [acallee, ha, h f (by simp [Call.operands])]
  | invoke r name => simp only [acallee, ha, h r (by simp [Call.operands])]

theorem astep_congr {call : Caller} {ρ σ : List V} (H : Hp) (o : Op) (h : ∀ x ∈ o.operands, ev ρ x = ev σ x) : astep P call ρ H o = astep P call σ H o := by
  unfold astep
  cases hc : isCall o with
  | none => dsimp only; exact aop_congr H o h
  | some c =>
    dsimp only
    have : o = .call c := by
      unfold isCall at hc
      split at hc
      · split at hc
        · cases hc
        · cases hc; rfl
      · cases hc
    subst this
    rw [callee_congr H c h]

theorem kind_isCall {o : Op} (h : opKind o ≠ 2) : isCall o = none := by
  unfold isCall
  split
  · rename_i c
    obtain ⟨callee, args, ats⟩ := c
    cases callee with
    | builtin b => rfl
    | value f => exact absurd rfl h
    | invoke r n => exact absurd rfl h
  · rfl

theorem kind0_heap {o : Op} {ρ : List V} {v : V} {H' : Hp} (hk : opKind o = 0) (h : aop P ρ H o = some (v, H')) : ∀ H2, aop P ρ H2 o = some (v, H2) := by
  intro H2
  cases o <;> simp only [opKind] at hk <;> (try (cases hk; done)) <;> simp only [aop] at h ⊢
  case move x => cases h; rfl
  case assign x => cases h; rfl
  case pick c a b => split at h <;> cases h; rfl
  case build t ps => obtain ⟨x, h1, h2⟩ := omap h; cases h2; rw [h1]; rfl
  case nilCheck x => split at h <;> cases h <;> rfl
  case binOp op t x y ty =>
    obtain ⟨z, h1, h2⟩ := omap h; cases h2
    have : ∀ H2, vbin P H2 op t (constOp x || constOp y) (ev ρ x) (ev ρ y) = vbin P H op t (constOp x || constOp y) (ev ρ x) (ev ρ y) := by
      intro H2
      cases op <;> (try (cases hk; done)) <;> (unfold vbin; split <;> first | rfl | simp_all)
    rw [this, h1]; rfl
  case unOp op t x => obtain ⟨z, h1, h2⟩ := omap h; cases h2; rw [h1]; rfl
  case makeInterface t x =>
    cases hu : P.underlying t with
    | none => rw [hu] at h; cases h
    | some d => rw [hu] at h; cases d <;> first | (cases h; done) | (cases h; rfl)
  case makeFunc fn first cap =>
    cases fn <;> try (cases h; done)
    simp only at h ⊢
    cases h; rfl
  case fieldAddr s x f => obtain ⟨z, h1, h2⟩ := omap h; cases h2; rw [h1]; rfl
  case field s x f => obtain ⟨z, h1, h2⟩ := omap h; cases h2; rw [h1]; rfl
  case indexAddr t x i => obtain ⟨z, h1, h2⟩ := omap h; cases h2; rw [h1]; rfl
  case index t x i => obtain ⟨z, h1, h2⟩ := omap h; cases h2; rw [h1]; rfl
  case extract x i => obtain ⟨z, h1, h2⟩ := omap h; cases h2; rw [h1]; rfl
  case call c =>
    obtain ⟨callee, args, ats⟩ := c
    cases callee with
    | value f => cases hk
    | invoke r n => cases hk
    | builtin b =>
      simp only at h ⊢ hk
      cases b <;> (try (cases hk; done)) <;> unfold vbuiltin at h ⊢ <;> (split at h <;> (try (cases h; done)) <;> rename_i e1 e2 <;> (try (cases e1; done))) <;> (obtain ⟨z, h1, h2⟩ := omap h; cases h2) <;> (try rw [e2]) <;> simp_all

theorem kind1_heap {o : Op} {ρ : List V} {v : V} {H' : Hp} (hk : opKind o = 1) (h : aop P ρ H o = some (v, H')) : H' = H := by
  cases o <;> simp only [opKind] at hk <;> (try (cases hk; done)) <;> simp only [aop] at h
  case load t x =>
    split at h
    · obtain ⟨z, h1, h2⟩ := omap h; cases h2; rfl
    · cases h
  case slice t x lo hi mx => obtain ⟨z, h1, h2⟩ := omap h; cases h2; rfl
  case binOp op t x y ty => obtain ⟨z, h1, h2⟩ := omap h; cases h2; rfl
  case convert s d x => obtain ⟨z, h1, h2⟩ := omap h; cases h2; rfl
  case call c =>
    obtain ⟨callee, args, ats⟩ := c
    cases callee with
    | value f => cases hk
    | invoke r n => cases hk
    | builtin b => simp only at hk; cases b <;> cases hk

theorem opKind_le (o : Op) : opKind o ≤ 2 := by
  cases o <;> simp only [opKind] <;> try omega
  case binOp op _ _ _ _ => cases op <;> decide
  case call c =>
    obtain ⟨callee, args, ats⟩ := c
    cases callee with
    | value f => exact Nat.le_refl _
    | invoke r n => exact Nat.le_refl _
    | builtin b => cases b <;> (show _ ≤ 2; first | exact Nat.le_refl 2 | exact Nat.zero_le 2)

end Go.Am
