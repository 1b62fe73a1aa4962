/-
  Each operation of the model does on memory what the abstract machine says of it, second part: comparisons, slices, built-ins.
-/
import Derived.Test.YtnicmcdnpeimoaaDoorAm3
set_option linter.unusedVariables false
set_option linter.unusedSimpArgs false
namespace Go.Am
open Go.RowKit

variable {P : Program} {w0 w : World} {M : Mp} {H : Hp}

theorem guard_run (op : BinOp) (t : TypeId) (x y : Operand) (a b : Value) (h : ¬ (a = .nilIface ∧ b = .nilIface)) (h2 : ∀ p q, ¬ (a = .agg p ∧ b = .agg q)) (w : World) :
    (eqGuard op t x y a b).run P w = .ok () w := by
  cases op <;> first
    | rfl
    | (simp only [eqGuard, Bool.not_true, Bool.false_eq_true, if_false]
       split
       · exact absurd ⟨rfl, rfl⟩ h
       · exact absurd ⟨rfl, rfl⟩ (h2 _ _)
       · rfl)

theorem pint_sound {op : BinOp} {k : IntKind} {x y : Int} {v : Value} (h : pint op k x y = some v) (t : TypeId) (w : World) :
    (binOp op t (.int k x) (.int k y)).run P w = .ok v w := by
  cases op <;> simp only [pint, pcmp, Option.map_some, Option.map_none, Option.some.injEq] at h <;> first
    | (cases h; done)
    | (subst h; simp [binOp, Op.intArith, Op.intBits, Op.intCmp, Op.intDiv]; done)
    | (split at h
       · cases h
       · rename_i hy
         cases h
         simp [binOp, Op.intDiv, hy])

theorem pshift_sound {op : BinOp} {k k' : IntKind} {x y : Int} {v : Value} (hop : op = .shl ∨ op = .shr) (h : pshift op k x y = some v) (t : TypeId) (w : World) :
    (binOp op t (.int k x) (.int k' y)).run P w = .ok v w := by
  unfold pshift at h
  split at h
  · cases h
  · rename_i hy
    rcases hop with rfl | rfl <;> simp only [Option.some.injEq] at h <;> subst h <;> simp [binOp, Op.shift, hy]

theorem pstr_sound {op : BinOp} {x y : ByteArray} {v : Value} (h : pstr op x y = some v) (t : TypeId) (w : World) :
    (binOp op t (.string x) (.string y)).run P w = .ok v w := by
  cases op <;> simp only [pstr, Option.some.injEq] at h <;> first
    | (cases h; done)
    | (subst h; simp [binOp, Op.stringOp]; done)
    | (split at h
       · cases h
       · rename_i hy
         cases h
         simp only [binOp, Op.stringOp, hy, if_false, Sem.run_pure])

theorem veq_sound (hR : Rel w0 M H w) {c : Bool} {t : TypeId} {x y : V} {u v : Value} {b : Bool} (hx : VR M x u) (hy : VR M y v) (h : veq P H c t x y = some b) :
    (Op.equal t u v).run P w = .ok b w := by
  obtain ⟨d, hd⟩ : ∃ d, Op.maxDepth = d + 1 := ⟨9999, rfl⟩
  unfold Op.equal
  rw [hd]
  unfold veq at h
  split at h <;> (try (cases h; done)) <;> rename_i hu <;> simp only [VR] at hx hy
  case h_1 => subst hx; subst hy; cases h; simp [Op.equalIn, run_under hu]
  case h_2 => subst hx; subst hy; cases h; simp [Op.equalIn, run_under hu]
  case h_3 => subst hx; obtain ⟨a, L, rfl, _⟩ := hy; cases h; simp [Op.equalIn, run_under hu]
  case h_4 => subst hy; obtain ⟨a, L, rfl, _⟩ := hx; cases h; simp [Op.equalIn, run_under hu]
  case h_5 => subst hx; subst hy; cases h; simp [Op.equalIn, run_under hu]
  case h_6 => subst hx; obtain ⟨a, k, L, rfl, _⟩ := hy; cases h; simp [Op.equalIn, run_under hu]
  case h_7 => subst hy; obtain ⟨a, k, L, rfl, _⟩ := hx; cases h; simp [Op.equalIn, run_under hu]
  case h_8 => subst hx; subst hy; cases h; simp [Op.equalIn, run_under hu]
  case h_9 => subst hx; obtain ⟨a, k, rfl, _⟩ := hy; cases h; simp [Op.equalIn, run_under hu]
  case h_10 => subst hy; obtain ⟨a, k, rfl, _⟩ := hx; cases h; simp [Op.equalIn, run_under hu]
  case h_11 =>
    subst hx; subst hy
    split at h
    · cases h; simp [Op.equalIn, run_under hu]
    · cases h
  case h_12 => subst hx; obtain ⟨a, rfl, _⟩ := hy; cases h; simp [Op.equalIn, run_under hu]
  case h_13 => subst hy; obtain ⟨a, rfl, _⟩ := hx; cases h; simp [Op.equalIn, run_under hu]
  case h_14 =>
    rename_i el n g o n' g' o'
    split at h
    · rename_i hng
      obtain ⟨rfl, rfl⟩ := hng
      obtain ⟨bl, hb, h1⟩ := obind h
      clear h
      obtain ⟨k, hk, h⟩ := obind h1
      clear h1
      split at h
      · cases h
      · rename_i hk0
        cases h
        obtain ⟨hb, hbg⟩ := blk_some hb
        obtain ⟨L, c, e, fz, q1, q2, q3, q4, q5, q6, q7⟩ := hR.blk n bl hb
        obtain ⟨a, L1, rfl, e1, e2, e3⟩ := hx
        obtain ⟨a', L2, rfl, f1, f2, f3⟩ := hy
        rw [q1] at e1 f1; cases e1; cases f1
        rw [e3 (q2.trans hbg), f3 (q2.trans hbg)]
        simp only [Op.equalIn, Sem.run_bind, run_under hu, Result.andThen_ok, sizeOf_run hk, ne_eq, hk0, not_false_eq_true, if_true, sameAddr, beq_self_eq_true, Sem.run_pure]
        congr 1
        simp [BEq.beq]
    · cases h

/-- What 'veq' knows of its operands keeps the guard of '==' quiet. -/
theorem veq_guard {t : TypeId} {x y : V} {u v : Value} {b : Bool} {ox oy : Operand} (op : BinOp) (hx : VR M x u) (hy : VR M y v) (h : veq P H (constOp ox || constOp oy) t x y = some b) (w : World) :
    (eqGuard op t ox oy u v).run P w = .ok () w := by
  unfold veq at h
  split at h <;> (try (cases h; done)) <;> rename_i hu <;> simp only [VR] at hx hy
  case h_1 => subst hx; subst hy; exact guard_run _ _ _ _ _ _ (by simp) (by simp) _
  case h_2 => subst hx; subst hy; exact guard_run _ _ _ _ _ _ (by simp) (by simp) _
  case h_3 => subst hx; exact guard_run _ _ _ _ _ _ (by simp) (by simp) _
  case h_4 => subst hy; exact guard_run _ _ _ _ _ _ (by simp) (by simp) _
  case h_5 => subst hx; subst hy; exact guard_run _ _ _ _ _ _ (by simp) (by simp) _
  case h_6 => subst hx; exact guard_run _ _ _ _ _ _ (by simp) (by simp) _
  case h_7 => subst hy; exact guard_run _ _ _ _ _ _ (by simp) (by simp) _
  case h_8 => subst hx; subst hy; exact guard_run _ _ _ _ _ _ (by simp) (by simp) _
  case h_9 => subst hx; exact guard_run _ _ _ _ _ _ (by simp) (by simp) _
  case h_10 => subst hy; exact guard_run _ _ _ _ _ _ (by simp) (by simp) _
  case h_11 =>
    subst hx; subst hy
    split at h
    · rename_i hc
      cases op <;> first
        | rfl
        | (simp only [eqGuard, Bool.not_true, Bool.false_eq_true, if_false]
           cases ox <;> cases oy <;> first | (simp [constOp] at hc; done) | rfl)
    · cases h
  case h_12 => subst hx; obtain ⟨a, rfl, _⟩ := hy; exact guard_run _ _ _ _ _ _ (by simp) (by simp) _
  case h_13 => subst hy; obtain ⟨a, rfl, _⟩ := hx; exact guard_run _ _ _ _ _ _ (by simp) (by simp) _
  case h_14 => obtain ⟨a, L1, rfl, _⟩ := hx; exact guard_run _ _ _ _ _ _ (by simp) (by simp) _

theorem binOp_eql (hR : Rel w0 M H w) {t : TypeId} {x y : V} {u v : Value} {c : Bool} {b : Bool} (hx : VR M x u) (hy : VR M y v) (h : veq P H c t x y = some b) :
    (binOp .eql t u v).run P w = .ok (.bool b) w := by
  have he := veq_sound hR hx hy h
  unfold veq at h
  split at h <;> (try (cases h; done)) <;> simp only [VR] at hx hy
  case h_1 => subst hx; subst hy; simp [binOp, he]
  case h_2 => subst hx; subst hy; simp [binOp, he]
  case h_3 => subst hx; obtain ⟨a, L, rfl, _⟩ := hy; simp [binOp, he]
  case h_4 => subst hy; obtain ⟨a, L, rfl, _⟩ := hx; simp [binOp, he]
  case h_5 => subst hx; subst hy; simp [binOp, he]
  case h_6 => subst hx; obtain ⟨a, k, L, rfl, _⟩ := hy; simp [binOp, he]
  case h_7 => subst hy; obtain ⟨a, k, L, rfl, _⟩ := hx; simp [binOp, he]
  case h_8 => subst hx; subst hy; simp [binOp, he]
  case h_9 => subst hx; obtain ⟨a, k, rfl, _⟩ := hy; simp [binOp, he]
  case h_10 => subst hy; obtain ⟨a, k, rfl, _⟩ := hx; simp [binOp, he]
  case h_11 => subst hx; subst hy; simp [binOp, he]
  case h_12 => subst hx; obtain ⟨a, rfl, _⟩ := hy; simp [binOp, he]
  case h_13 => subst hy; obtain ⟨a, rfl, _⟩ := hx; simp [binOp, he]
  case h_14 => obtain ⟨a, L1, rfl, _⟩ := hx; obtain ⟨a', L2, rfl, _⟩ := hy; simp [binOp, he]

theorem binOp_neq (hR : Rel w0 M H w) {t : TypeId} {x y : V} {u v : Value} {c : Bool} {b : Bool} (hx : VR M x u) (hy : VR M y v) (h : veq P H c t x y = some b) :
    (binOp .neq t u v).run P w = .ok (.bool !b) w := by
  have he := veq_sound hR hx hy h
  unfold veq at h
  split at h <;> (try (cases h; done)) <;> simp only [VR] at hx hy
  case h_1 => subst hx; subst hy; simp [binOp, he]
  case h_2 => subst hx; subst hy; simp [binOp, he]
  case h_3 => subst hx; obtain ⟨a, L, rfl, _⟩ := hy; simp [binOp, he]
  case h_4 => subst hy; obtain ⟨a, L, rfl, _⟩ := hx; simp [binOp, he]
  case h_5 => subst hx; subst hy; simp [binOp, he]
  case h_6 => subst hx; obtain ⟨a, k, L, rfl, _⟩ := hy; simp [binOp, he]
  case h_7 => subst hy; obtain ⟨a, k, L, rfl, _⟩ := hx; simp [binOp, he]
  case h_8 => subst hx; subst hy; simp [binOp, he]
  case h_9 => subst hx; obtain ⟨a, k, rfl, _⟩ := hy; simp [binOp, he]
  case h_10 => subst hy; obtain ⟨a, k, rfl, _⟩ := hx; simp [binOp, he]
  case h_11 => subst hx; subst hy; simp [binOp, he]
  case h_12 => subst hx; obtain ⟨a, rfl, _⟩ := hy; simp [binOp, he]
  case h_13 => subst hy; obtain ⟨a, rfl, _⟩ := hx; simp [binOp, he]
  case h_14 => obtain ⟨a, L1, rfl, _⟩ := hx; obtain ⟨a', L2, rfl, _⟩ := hy; simp [binOp, he]

theorem guard_int (op : BinOp) (t : TypeId) (x y : Operand) (k k' : IntKind) (a b : Int) (w : World) : (eqGuard op t x y (.int k a) (.int k' b)).run P w = .ok () w :=
  guard_run _ _ _ _ _ _ (by simp) (by simp) _
theorem guard_str (op : BinOp) (t : TypeId) (x y : Operand) (a b : ByteArray) (w : World) : (eqGuard op t x y (.string a) (.string b)).run P w = .ok () w :=
  guard_run _ _ _ _ _ _ (by simp) (by simp) _

theorem bin_sound (hR : Rel w0 M H w) {op : BinOp} {t : TypeId} {ox oy : Operand} {x y r : V} {u v : Value} (hx : VR M x u) (hy : VR M y v)
    (h : vbin P H op t (constOp ox || constOp oy) x y = some r) :
    ∃ z, (do eqGuard op t ox oy u v; binOp op t u v : Sem Value).run P w = .ok z w ∧ VR M r z := by
  unfold vbin at h
  split at h
  · obtain ⟨z, h1, rfl⟩ := omap h
    simp only [VR] at hx hy; subst hx; subst hy
    refine ⟨z, ?_, VR_s _⟩
    rw [Sem.run_bind, guard_int, Result.andThen_ok]
    exact pshift_sound (.inl rfl) h1 t w
  · obtain ⟨z, h1, rfl⟩ := omap h
    simp only [VR] at hx hy; subst hx; subst hy
    refine ⟨z, ?_, VR_s _⟩
    rw [Sem.run_bind, guard_int, Result.andThen_ok]
    exact pshift_sound (.inr rfl) h1 t w
  · split at h
    · rename_i hk
      subst hk
      obtain ⟨z, h1, rfl⟩ := omap h
      simp only [VR] at hx hy; subst hx; subst hy
      refine ⟨z, ?_, VR_s _⟩
      rw [Sem.run_bind, guard_int, Result.andThen_ok]
      exact pint_sound h1 t w
    · cases h
  · obtain ⟨z, h1, rfl⟩ := omap h
    simp only [VR] at hx hy; subst hx; subst hy
    refine ⟨z, ?_, VR_s _⟩
    rw [Sem.run_bind, guard_str, Result.andThen_ok]
    exact pstr_sound h1 t w
  · obtain ⟨b, h1, rfl⟩ := omap h
    refine ⟨.bool b, ?_, VR_s _⟩
    simp only [Sem.run_bind, veq_guard _ hx hy h1 w, Result.andThen_ok]
    exact binOp_eql hR hx hy h1
  · obtain ⟨b, h1, rfl⟩ := omap h
    refine ⟨.bool !b, ?_, VR_s _⟩
    simp only [Sem.run_bind, veq_guard _ hx hy h1 w, Result.andThen_ok]
    exact binOp_neq hR hx hy h1
  · cases h

/-! ### Slices -/

def VRo (M : Mp) : Option V → Option Value → Prop
  | none, u => u = none
  | some v, u => ∃ x, u = some x ∧ VR M v x

theorem bound_sound {x : Option V} {u : Option Value} {d n : Nat} (hx : VRo M x u) (h : bound x d = some n) :
    (x = none ∧ u = none ∧ n = d) ∨ (∃ k i, u = some (.int k i) ∧ 0 ≤ i ∧ i.toNat = n ∧ x.isSome = true) := by
  cases x with
  | none => simp only [VRo] at hx; simp only [bound, Option.some.injEq] at h; exact .inl ⟨rfl, hx, h.symm⟩
  | some v =>
    simp only [VRo] at hx
    obtain ⟨y, rfl, hv⟩ := hx
    simp only [bound] at h
    obtain ⟨i, h1, h2⟩ := obind h
    obtain ⟨k, rfl⟩ := asInt_sound hv h1
    split at h2
    · rename_i hi; cases h2; exact .inr ⟨k, i, rfl, hi, rfl, rfl⟩
    · cases h2

theorem sliceBound_run (k : IntKind) (i : Int) (y : Nat) (code : BoundsCode) (h0 : 0 ≤ i) (h1 : i.toNat ≤ y) (w : World) :
    (Instr.sliceBound (.int k i) y code).run P w = .ok i.toNat w := by
  unfold Instr.sliceBound
  simp only [Sem.run_bind, run_asIntOf, Result.andThen_ok]
  rw [if_pos ⟨h0, by omega⟩, Sem.run_pure]

theorem sliceBounds_run {lo hi mx : Option V} {ulo uhi umx : Option Value} {len cap l h m : Nat} (isS : Bool)
    (hlo : VRo M lo ulo) (hhi : VRo M hi uhi) (hmx : VRo M mx umx) (h1 : bound lo 0 = some l) (h2 : bound hi len = some h) (h3 : bound mx cap = some m)
    (hlh : l ≤ h) (hhm : h ≤ m) (hmc : m ≤ cap) (hs : mx.isSome = true → hi.isSome = true) (w : World) :
    (Instr.sliceBounds isS len cap ulo uhi umx).run P w = .ok (l, h, m) w := by
  unfold Instr.sliceBounds
  rcases bound_sound hmx h3 with ⟨rfl, rfl, rfl⟩ | ⟨km, im, rfl, hm0, rfl, hms⟩
  · rcases bound_sound hhi h2 with ⟨rfl, rfl, rfl⟩ | ⟨kh, ih, rfl, hh0, rfl, hhs⟩
    · rcases bound_sound hlo h1 with ⟨rfl, rfl, rfl⟩ | ⟨kl, il, rfl, hl0, rfl, hls⟩
      · simp only [Sem.run_bind, Sem.run_pure, Result.andThen_ok]
      · simp only [Sem.run_bind, Sem.run_pure, Result.andThen_ok, sliceBound_run kl il _ _ hl0 hlh]
    · rcases bound_sound hlo h1 with ⟨rfl, rfl, rfl⟩ | ⟨kl, il, rfl, hl0, rfl, hls⟩
      · simp only [Sem.run_bind, Sem.run_pure, Result.andThen_ok, sliceBound_run kh ih _ _ hh0 hhm]
      · simp only [Sem.run_bind, Sem.run_pure, Result.andThen_ok, sliceBound_run kh ih _ _ hh0 hhm, sliceBound_run kl il _ _ hl0 hlh]
  · rcases bound_sound hhi h2 with ⟨rfl, rfl, rfl⟩ | ⟨kh, ih, rfl, hh0, rfl, hhs⟩
    · simp [hms] at hs
    · rcases bound_sound hlo h1 with ⟨rfl, rfl, rfl⟩ | ⟨kl, il, rfl, hl0, rfl, hls⟩
      · simp only [Sem.run_bind, Sem.run_pure, Result.andThen_ok, sliceBound_run km im _ _ hm0 hmc, sliceBound_run kh ih _ _ hh0 hhm]
      · simp only [Sem.run_bind, Sem.run_pure, Result.andThen_ok, sliceBound_run km im _ _ hm0 hmc, sliceBound_run kh ih _ _ hh0 hhm, sliceBound_run kl il _ _ hl0 hlh]

end Go.Am
