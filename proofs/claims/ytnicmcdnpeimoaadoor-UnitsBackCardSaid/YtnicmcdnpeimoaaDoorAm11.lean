/-
  Regions in the order of the text, code and calls: what the abstract machine says of them holds of the model.
-/
import Derived.Test.YtnicmcdnpeimoaaDoorAm10
import Derived.Deep.LoopGhost
import Derived.Laws.Externs
set_option linter.unusedVariables false
set_option linter.unusedSimpArgs false
namespace Go.Am
open Go.RowKit

variable {P : Program} {w0 w : World} {M : Mp} {H : Hp}

/-- What is asked of the function that answers calls. -/
def CallOk (P : Program) (call : Caller) : Prop :=
  ∀ f args H v H', call f args H = some (v, H') → ∀ (w0 w : World) (M : Mp) (us : List Value), Rel w0 M H w → VRs M args us →
    ((∃ fn c, P.funcs[f]? = some fn ∧ fn.body = some c ∧ (fn.name == "runtime.NumGoroutine") = false) ∧
      Calls P f us.toArray w fun e w' => ∃ u M', e = .returned u ∧ VR M' v u ∧ Rel w0 M' H' w' ∧ Ext M M') ∨
    (∃ u, (callFunc f us.toArray).run P w = .ok (.value u) w ∧ VR M v u ∧ H' = H)

/-- A step of a region, as the model makes it. -/
theorem step_sound {call : Caller} (hC : CallOk P call) (hR : Rel w0 M H w) {ρ : List V} {a : Act} (hev : ∀ x, VR M (ev ρ x) (a.eval x)) (o : Oper) {v : V} {H' : Hp}
    (h : astep P call ρ H o.op = some (v, H')) (K : Act → World → Prop) (Q : Exit → Act → World → Prop)
    (hK : ∀ u w' M', VR M' v u → Rel w0 M' H' w' → Ext M M' → K (a.put o.dst u) w') : o.wp P a w K Q := by
  unfold astep at h
  cases hc : isCall o.op with
  | none =>
    rw [hc] at h
    obtain ⟨nx, u, w', M', h1, h2, h3, h4, h5⟩ := aop_sound hR hev o h
    unfold Oper.wp
    rw [h1]
    rcases h2 with rfl | ⟨rfl, rfl⟩
    · exact hK u w' M' h3 h4 h5
    · exact hK undef w' M' h3 h4 h5
  | some c =>
    rw [hc] at h
    dsimp only at h
    obtain ⟨⟨f, args⟩, h1, h2⟩ := obind h
    dsimp only at h2
    have hop : o.op = .call c := by
      unfold isCall at hc
      split at hc
      · rename_i c' he
        split at hc
        · cases hc
        · cases hc; exact he
      · cases hc
    obtain ⟨us, q1, q2⟩ := callee_sound hR hev h1 o.type
    unfold Oper.wp
    have hex : execOp a.eval o = (do let d ← resolve a.eval c o.type; invoke d.target d.args : Sem Next) := by
      unfold execOp; rw [hop]
    rcases hC f args H v H' h2 w0 w M us hR q1 with ⟨⟨fn, code, f1, f2, f3⟩, hcalls⟩ | ⟨u, g1, g2, g3⟩
    case inr =>
      rw [hex, q2, g1]
      subst g3
      exact hK u w M g2 hR (Ext.refl _)
    have he : (execOp a.eval o).run P w = .ok (.enter f us.toArray) w := by
      rw [hex, q2]
      exact callFunc_run f1 f2 f3 _ _
    rw [he]
    refine Calls.mono hcalls ?_
    rintro e w' ⟨u, M', rfl, r1, r2, r3⟩
    exact hK u w' M' r1 r2 r3

theorem wanted_sound {ops : Array Oper} {ρ : List V} {a : Act} {o : Oper} {b : Bool} (h : VRs M ρ a.tmps.toList) (hw : wanted ops ρ o = some b) : Region.wanted o (yielded ops a.tmps) = b := by
  unfold wanted at hw
  unfold Region.wanted
  cases hg : o.guard with
  | none => rw [hg] at hw; cases hw; rfl
  | some p =>
    obtain ⟨j, want⟩ := p
    rw [hg] at hw
    dsimp only at hw ⊢
    unfold yielded
    cases hd : (ops[j]?).bind (·.dst) with
    | none =>
      rw [hd] at hw; cases hw; rfl
    | some d =>
      rw [hd] at hw
      dsimp only at hw
      simp only [Option.bind_some]
      have hl := VRs_length h
      cases hr : ρ[d]? with
      | none =>
        rw [hr] at hw
        cases hw
        have : a.tmps[d]? = none := by
          rw [← Array.getElem?_toList]
          rw [List.getElem?_eq_none_iff] at hr ⊢
          omega
        rw [this]; rfl
      | some v =>
        obtain ⟨u, h1, h2⟩ := VRs_get h hr
        rw [Array.getElem?_toList] at h1
        rw [h1]
        rw [hr] at hw
        split at hw
        · rename_i hq; cases hq
        · rename_i b' hq
          cases hq; cases hw
          simp only [VR] at h2; subst h2
          cases b' <;> cases want <;> rfl
        · rename_i hq
          cases hq; cases hw
          simp only [VR] at h2; subst h2
          rfl
        · cases hw

theorem ops_sound {call : Caller} (hC : CallOk P call) {ops : Array Oper} (Q : Exit → Act → World → Prop) : ∀ (l : List Oper) (ρ ρ' : List V) (H H' : Hp) (M : Mp) (w : World) (a : Act),
    aops P call ops l ρ H = some (ρ', H') → Rel w0 M H w → VRs M ρ a.tmps.toList →
    (∀ a' w' M', a'.defers = a.defers → VRs M' ρ' a'.tmps.toList → Rel w0 M' H' w' → Ext M M' → Q .normal a' w') → wpList P ops Q l a w
  | [], ρ, ρ', H, H', M, w, a, h, hR, hv, hQ => by
    simp only [aops] at h; cases h
    exact hQ a w M rfl hv hR (Ext.refl _)
  | o :: l, ρ, ρ', H, H', M, w, a, h, hR, hv, hQ => by
    simp only [aops] at h
    obtain ⟨b, hb, ha⟩ := obind h
    clear h
    have hw := wanted_sound hv hb
    unfold wpList
    cases b with
    | true =>
      simp only [if_true] at ha
      obtain ⟨⟨v, H2⟩, h1, h2⟩ := obind ha
      clear ha
      dsimp only at h2
      rw [if_pos hw]
      refine .inl (step_sound hC hR (ev_rel hR hv) o h1 _ _ fun u w' M' q1 q2 q3 => ?_)
      refine ops_sound hC Q l _ ρ' H2 H' M' w' _ h2 q2 (put_rel (VRs.ext q3 _ _ hv) o.dst q1) ?_
      intro a' w'' M'' r1 r2 r3 r4
      exact hQ a' w'' M'' (r1.trans (put_defers _ _ _)) r2 r3 (q3.trans r4)
    | false =>
      simp only [Bool.false_eq_true, if_false] at ha
      rw [if_neg (by rw [hw]; simp)]
      refine ops_sound hC Q l _ ρ' H H' M w _ ha hR (put_rel hv o.dst (v := undefV) (VR_s _)) ?_
      intro a' w'' M'' r1 r2 r3 r4
      exact hQ a' w'' M'' (r1.trans (put_defers _ _ _)) r2 r3 r4

/-- How the two machines' ends of a piece of code stand to each other. -/
def exr : Ex → Exit
  | .norm => .normal
  | .exit id => .exit id
  | .ret => .ret

def CodePost (w0 : World) (M : Mp) (e : Ex) (ρ' : List V) (H' : Hp) (x : Exit) (a' : Act) (w' : World) : Prop :=
  x = exr e ∧ a'.defers = [] ∧ ∃ M', VRs M' ρ' a'.tmps.toList ∧ Rel w0 M' H' w' ∧ Ext M M'

abbrev Coder := FuncId → Code → List V → Hp → Option (Ex × List V × Hp)

def CodeOk (P : Program) (code : Coder) : Prop :=
  ∀ f c ρ H e ρ' H', code f c ρ H = some (e, ρ', H') → ∀ (w0 w : World) (M : Mp) (a : Act), Rel w0 M H w → a.defers = [] → VRs M ρ a.tmps.toList →
    c.wp P (CodePost w0 M e ρ' H') a w

theorem CodePost.ext {M M' : Mp} {e : Ex} {ρ' : List V} {H' : Hp} {x : Exit} {a' : Act} {w' : World} (hM : Ext M M') (h : CodePost w0 M' e ρ' H' x a' w') : CodePost w0 M e ρ' H' x a' w' := by
  obtain ⟨h1, h2, M'', h3, h4, h5⟩ := h
  exact ⟨h1, h2, M'', h3, h4, hM.trans h5⟩


def rsem (tmps : Array Value) : ResultVar → Sem Value
  | .tmp t => pure (tmps.getD t undef)
  | .cell a t => do Go.loadVar t (← asAddr (tmps.getD a undef))

theorem results_go (hR : Rel w0 M H w) {ρ : List V} {tmps : Array Value} (hv : VRs M ρ tmps.toList) : ∀ (l : List ResultVar) (vs : List V),
    (l.mapM fun (r : ResultVar) => match r with
      | .tmp t => some (ρ.getD t undefV)
      | .cell a t => match ρ.getD a undefV with | .ptr n g off => Am.loadVar P H t n g off | _ => none) = some vs →
    ∃ us, VRs M vs us ∧ (l.mapM (rsem tmps)).run P w = .ok us w := by
  have hget : ∀ t, VR M (ρ.getD t undefV) (tmps.getD t undef) := by
    intro t
    have hl := VRs_length hv
    simp only [Array.length_toList] at hl
    cases ht : ρ[t]? with
    | none =>
      have e1 : ρ.getD t undefV = undefV := by rw [List.getD_eq_getElem?_getD, ht]; rfl
      have e2 : tmps.getD t undef = undef := by
        rw [Array.getD_eq_getD_getElem?, show tmps[t]? = none from by rw [List.getElem?_eq_none_iff] at ht; rw [Array.getElem?_eq_none_iff]; omega]
        rfl
      rw [e1, e2]; exact VR_s _
    | some v =>
      obtain ⟨u, h1, h2⟩ := VRs_get hv ht
      have e1 : ρ.getD t undefV = v := by rw [List.getD_eq_getElem?_getD, ht]; rfl
      have e2 : tmps.getD t undef = u := by
        rw [Array.getElem?_toList] at h1
        rw [Array.getD_eq_getD_getElem?, h1]; rfl
      rw [e1, e2]; exact h2
  intro l
  induction l with
  | nil => intro vs h; simp only [List.mapM_nil] at h; cases h; exact ⟨[], by simp only [VRs], rfl⟩
  | cons r l ih =>
    intro vs h
    simp only [List.mapM_cons] at h
    obtain ⟨v, h1, ha⟩ := obind h
    clear h
    obtain ⟨vs', h2, h⟩ := obind ha
    clear ha
    cases h
    obtain ⟨us, q1, q2⟩ := ih vs' h2
    have : ∃ u, VR M v u ∧ (rsem tmps r).run P w = .ok u w := by
      cases r with
      | tmp t => dsimp only at h1; cases h1; exact ⟨_, hget t, rfl⟩
      | cell a t =>
        dsimp only at h1
        have ha := hget a
        split at h1
        · rename_i n g off he
          rw [he] at ha
          simp only [VR] at ha
          obtain ⟨ad, L, e1, e2, e3, e4⟩ := ha
          obtain ⟨L', u, k1, k2, k3, k4⟩ := loadVar_sound hR h1
          rw [e2] at k1; cases k1
          refine ⟨u, k4, ?_⟩
          simp only [rsem, Sem.run_bind, e1, asAddr, Sem.run_pure, Result.andThen_ok]
          rw [e4 k2]; exact k3
        · cases h1
    obtain ⟨u, u1, u2⟩ := this
    refine ⟨u :: us, by simp only [VRs]; exact ⟨u, us, rfl, u1, q1⟩, ?_⟩
    simp only [List.mapM_cons, Sem.run_bind, u2, Result.andThen_ok, q2, Sem.run_pure]

theorem results_sound (hR : Rel w0 M H w) {fn : Func} {ρ : List V} {tmps : Array Value} (hv : VRs M ρ tmps.toList) {v : V} (h : Am.results P fn ρ H = some v) :
    ∃ u, (Go.results fn tmps).run P w = .ok u w ∧ VR M v u := by
  unfold Am.results at h
  obtain ⟨vs, h1, h2⟩ := obind h
  obtain ⟨us, q1, q2⟩ := results_go hR hv fn.results.toList vs h1
  have hl := VRs_length q1
  have hres : Go.results fn tmps = (do let vs ← fn.results.mapM (rsem tmps); pure (if h : vs.size = 1 then vs[0] else .tuple vs)) := rfl
  rw [hres, Array.mapM_eq_mapM_toList]
  simp only [Sem.run_bind, Sem.run_map, q2, Result.andThen_ok, Sem.run_pure]
  split at h2
  · cases h2
    simp only [VRs] at q1
    obtain ⟨u, us', rfl, k1, rfl⟩ := q1
    exact ⟨u, by simp, k1⟩
  · rename_i hne
    cases h2
    refine ⟨.tuple us.toArray, ?_, by simp only [VR]; exact ⟨us, rfl, q1⟩⟩
    have : ¬ us.toArray.size = 1 := by
      intro e
      simp only [List.size_toArray] at e
      rw [hl] at e
      obtain ⟨x, hx⟩ := List.length_eq_one_iff.1 e
      exact hne x hx
    rw [dif_neg this]

/-- What a region that draws its order must be shown to do. -/
def DrawOk (P : Program) : Prop :=
  ∀ (call : Caller), CallOk P call → ∀ (ops : Array Oper) (id : Nat) (ρ ρ' : List V) (H H' : Hp), adraw P call ops.toList ρ H = some (ρ', H') →
    ∀ (w0 w : World) (M : Mp) (a : Act) (Q : Exit → Act → World → Prop), Rel w0 M H w → VRs M ρ a.tmps.toList →
      (∀ a' w' M', a'.defers = a.defers → VRs M' ρ' a'.tmps.toList → Rel w0 M' H' w' → Ext M M' → Q .normal a' w') → (Code.region id ops true).wp P Q a w

/-- What is known of a function: what it hands back when it is called without arguments. -/
def OrcOk (C : Ctx) (f : FuncId) : Prop := ∀ H v, C.orc f H = some v → ∀ (w0 w : World) (M : Mp), Rel w0 M H w →
  (∃ fn c, C.P.funcs[f]? = some fn ∧ fn.body = some c ∧ (fn.name == "runtime.NumGoroutine") = false) ∧
  Calls C.P f #[] w fun e w' => ∃ u M', e = .returned u ∧ VR M' v u ∧ Rel w0 M' H w' ∧ Ext M M'
/-- The functions without a body that hand on their argument are such. -/
def SameOk (C : Ctx) : Prop := ∀ f, C.same f = true → (C.isOrc f = true ∧ OrcOk C f) ∨ C.isOrc f = false ∧ ∃ fn, C.P.funcs[f]? = some fn ∧ (fn.name == "runtime.NumGoroutine") = false ∧ fn.body.isNone = true ∧ Extern.findNext fn = none ∧ Extern.find fn = some Extern.AbiNoEscape.same

theorem all_sound (C : Ctx) (hD : DrawOk C.P) (hS : SameOk C) : ∀ k, (∀ j, j < k → CodeOk C.P (acode C j) ∧ CallOk C.P (acall C j)) → CodeOk C.P (acode C k) ∧ CallOk C.P (acall C k) := by
  intro k ih
  cases k with
  | zero =>
    constructor
    · intro f c ρ H e ρ' H' h
      cases h
    · intro f args H v H' h
      cases h
  | succ k =>
    obtain ⟨ihc, ihk⟩ := ih k (by omega)
    constructor
    · intro f c ρ H e ρ' H' h w0 w M a hR hd hv
      have h' : acodeBody C (acall C k) (acode C k) f c ρ H = some (e, ρ', H') := h
      clear h
      cases c with
      | skip =>
        simp only [acodeBody] at h'; cases h'
        exact wp_skip ⟨rfl, hd, M, hv, hR, Ext.refl _⟩
      | label l =>
        simp only [acodeBody] at h'; cases h'
        exact wp_label ⟨rfl, hd, M, hv, hR, Ext.refl _⟩
      | exit id =>
        simp only [acodeBody] at h'; cases h'
        exact wp_exit ⟨rfl, hd, M, hv, hR, Ext.refl _⟩
      | ret =>
        simp only [acodeBody] at h'; cases h'
        exact wp_ret ⟨rfl, hd, M, hv, hR, Ext.refl _⟩
      | region id ops draw =>
        cases draw with
        | false =>
          simp only [acodeBody] at h'
          obtain ⟨⟨ρ2, H2⟩, h1, h2⟩ := obind h'
          cases h2
          refine wp_region_list (ops_sound ihk _ _ ρ ρ2 H _ M w a h1 hR hv ?_)
          intro a' w' M' q1 q2 q3 q4
          exact ⟨rfl, q1.trans hd, M', kill_rel _ _ _ q2, q3, q4⟩
        | true =>
          simp only [acodeBody] at h'
          obtain ⟨⟨ρ2, H2⟩, h1, h2⟩ := obind h'
          cases h2
          refine hD _ ihk ops id ρ ρ2 H _ h1 w0 w M a _ hR hv ?_
          intro a' w' M' q1 q2 q3 q4
          exact ⟨rfl, q1.trans hd, M', kill_rel _ _ _ q2, q3, q4⟩
      | seq x y =>
        simp only [acodeBody] at h'
        obtain ⟨⟨e1, ρ1, H1⟩, h1, h2⟩ := obind h'
        clear h'
        dsimp only at h2
        refine wp_seq (wp_mono (ihc f x ρ H e1 ρ1 H1 h1 w0 w M a hR hd hv) ?_)
        rintro x' a' w' ⟨rfl, q2, M', q3, q4, q5⟩
        by_cases he : e1 = .norm
        · subst he
          rw [if_pos rfl] at h2
          exact wp_mono (ihc f y ρ1 H1 e ρ' H' h2 w0 w' M' a' q4 q2 q3) fun _ _ _ q => CodePost.ext q5 q
        · rw [if_neg he] at h2
          cases h2
          cases e with
          | norm => exact absurd rfl he
          | exit id => exact ⟨rfl, q2, M', q3, q4, q5⟩
          | ret => exact ⟨rfl, q2, M', q3, q4, q5⟩
      | cond c x y =>
        simp only [acodeBody] at h'
        have hc := ev_rel hR hv c
        split at h'
        · rename_i t ht
          rw [ht] at hc
          simp only [VR] at hc
          refine wp_cond hc ?_
          exact ihc f _ ρ H e ρ' H' h' w0 w M a hR hd hv
        · cases h'
      | block id b =>
        simp only [acodeBody] at h'
        obtain ⟨⟨e1, ρ1, H1⟩, h1, h2⟩ := obind h'
        clear h'
        cases h2
        refine wp_block (wp_mono (ihc f b ρ H e1 ρ1 H1 h1 w0 w M a hR hd hv) ?_)
        rintro x' a' w' ⟨rfl, q2, M', q3, q4, q5⟩
        cases e1 with
        | norm => exact ⟨by simp [exr], q2, M', q3, q4, q5⟩
        | ret => exact ⟨by simp [exr], q2, M', q3, q4, q5⟩
        | exit id' =>
          simp only [exr, Exit.inBlock]
          by_cases hi : id' = id
          · subst hi
            rw [if_pos rfl]
            exact ⟨by simp [exr], q2, M', q3, q4, q5⟩
          · rw [if_neg hi]
            exact ⟨by simp [exr, hi], q2, M', q3, q4, q5⟩
      | loop b =>
        let J : Nat → Act → World → Prop := fun j a w => j ≤ k + 1 ∧ a.defers = [] ∧ ∃ ρ H M1, acode C j f (.loop b) ρ H = some (e, ρ', H') ∧ VRs M1 ρ a.tmps.toList ∧ Rel w0 M1 H w ∧ Ext M M1
        refine wp_loop_ghost J (k + 1) ⟨Nat.le_refl _, hd, ρ, H, M, h', hv, hR, Ext.refl _⟩ ?_
        intro j a1 w1 hI
        obtain ⟨hj, hd1, ρ1, H1, M1, hrun, hv1, hR1, hM1⟩ := hI
        cases j with
        | zero => cases hrun
        | succ j =>
          obtain ⟨jc, jk⟩ := ih j (by omega)
          have hrun' : acodeBody C (acall C j) (acode C j) f (.loop b) ρ1 H1 = some (e, ρ', H') := hrun
          simp only [acodeBody] at hrun'
          obtain ⟨⟨e1, ρ2, H2⟩, h1, h2⟩ := obind hrun'
          clear hrun'
          dsimp only at h2
          refine wp_mono (jc f b ρ1 H1 e1 ρ2 H2 h1 w0 w1 M1 a1 hR1 hd1 hv1) ?_
          rintro x' a' w' ⟨rfl, q2, M', q3, q4, q5⟩
          by_cases he : e1 = .norm
          · subst he
            rw [if_pos rfl] at h2
            exact ⟨j, by omega, by omega, q2, ρ2, H2, M', h2, q3, q4, hM1.trans q5⟩
          · rw [if_neg he] at h2
            cases h2
            cases e with
            | norm => exact absurd rfl he
            | exit id => exact ⟨rfl, q2, M', q3, q4, hM1.trans q5⟩
            | ret => exact ⟨rfl, q2, M', q3, q4, hM1.trans q5⟩
      | rangeFunc f ps x y => simp only [acodeBody] at h'; cases h'
      | scope b => simp only [acodeBody] at h'; cases h'
      | goto l => simp only [acodeBody] at h'; cases h'
      | refuse why => simp only [acodeBody] at h'; cases h'
    · intro f args H v H' h w0 w M us hR hv
      have h' : acallBody C (acode C k) f args H = some (v, H') := h
      clear h
      unfold acallBody at h'
      split at h'
      · rename_i hsame
        rcases hS f hsame with ⟨hi, ho⟩ | ⟨hi, fn, s1, s2, s3, s4, s5⟩
        · rw [hi] at h'
          split at h'
          · cases h'
          · simp only [cond_true] at h'
            cases hv0 : C.orc f H with
            | none => rw [hv0] at h'; cases h'
            | some v0 =>
              rw [hv0] at h'
              cases h'
              have := VRs_length hv
              have hus : us = [] := by cases us <;> simp_all
              subst hus
              exact .inl (ho H v hv0 w0 w M hR)
          · cases h'
        rw [hi] at h'
        split at h'
        · cases h'
          simp only [VRs] at hv
          obtain ⟨u, us', rfl, h1, rfl⟩ := hv
          refine .inr ⟨u, ?_, h1, rfl⟩
          rw [run_callFunc_extern s1 s2 s3 s4 s5]
          rfl
        · cases h'
        · cases h'
      refine .inl ?_
      cases hf : C.P.funcs[f]? with
      | none => rw [hf] at h'; cases h'
      | some fn =>
        rw [hf] at h'
        dsimp only at h'
        cases hb : fn.body with
        | none => rw [hb] at h'; cases h'
        | some c =>
          rw [hb] at h'
          dsimp only at h'
          split at h'
          · cases h'
          · rename_i hn
            have hn : (fn.name == "runtime.NumGoroutine") = false := by simpa using hn
            refine ⟨⟨fn, c, rfl, hb, hn⟩, ?_⟩
            obtain ⟨⟨e, ρ', H2⟩, h1, h2⟩ := obind h'
            clear h'
            dsimp only at h2
            have hl := VRs_length hv
            have hregs : VRs M (args ++ List.replicate (fn.ntmps - args.length) undefV) ((us.toArray ++ Array.replicate (fn.ntmps - us.toArray.size) undef).toList) := by
              have : (us.toArray ++ Array.replicate (fn.ntmps - us.toArray.size) undef).toList = us ++ List.replicate (fn.ntmps - args.length) undef := by simp [hl]
              rw [this]
              refine VRs_append hv ?_
              have := VRs_s (M := M) (List.replicate (fn.ntmps - args.length) undef)
              rwa [List.map_replicate] at this
            refine calls_of_wp hf hb (wp_mono (ihc f c _ H e ρ' H2 h1 w0 w M _ hR rfl hregs) ?_)
            rintro x' a' w' ⟨rfl, q2, M', q3, q4, q5⟩
            cases e with
            | exit id => cases h2
            | norm =>
              obtain ⟨r, r1, r2⟩ := omap h2
              cases r2
              obtain ⟨u, u1, u2⟩ := results_sound q4 q3 r1
              exact ⟨q2, u, u1, u, M', rfl, u2, q4, q5⟩
            | ret =>
              obtain ⟨r, r1, r2⟩ := omap h2
              cases r2
              obtain ⟨u, u1, u2⟩ := results_sound q4 q3 r1
              exact ⟨q2, u, u1, u, M', rfl, u2, q4, q5⟩

theorem call_sound (C : Ctx) (hD : DrawOk C.P) (hS : SameOk C) (k : Nat) : CallOk C.P (acall C k) := by
  have : ∀ k, CodeOk C.P (acode C k) ∧ CallOk C.P (acall C k) := by
    intro k
    induction k using Nat.strongRecOn with
    | _ k ih => exact all_sound C hD hS k ih
  exact (this k).2

end Go.Am
