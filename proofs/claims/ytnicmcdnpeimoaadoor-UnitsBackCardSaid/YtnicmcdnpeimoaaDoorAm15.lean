/-
  The abstract machine without a bound on its rounds: what it comes to, as two functions with an equation each.
-/
import Derived.Test.YtnicmcdnpeimoaaDoorAm14
set_option linter.unusedVariables false
set_option linter.unusedSimpArgs false
namespace Go.Am

def LeC (a b : Caller) : Prop := ∀ f args H r, a f args H = some r → b f args H = some r
def LeD (a b : Coder) : Prop := ∀ f c ρ H r, a f c ρ H = some r → b f c ρ H = some r

theorem obind_le {α β : Type} {x y : Option α} {f g : α → Option β} (hx : ∀ a, x = some a → y = some a) (hf : ∀ a b, f a = some b → g a = some b) {b : β} (h : x.bind f = some b) : y.bind g = some b := by
  obtain ⟨a, h1, h2⟩ := obind h
  rw [hx a h1]
  exact hf a b h2

theorem astep_le {P : Program} {a b : Caller} (h : LeC a b) {ρ : List V} {H : Hp} {o : Op} {r : V × Hp} (hr : astep P a ρ H o = some r) : astep P b ρ H o = some r := by
  unfold astep at hr ⊢
  cases hc : isCall o with
  | none => rw [hc] at hr; exact hr
  | some c =>
    rw [hc] at hr
    dsimp only at hr ⊢
    exact obind_le (fun _ q => q) (fun p q hq => h _ _ _ _ hq) hr

theorem aops_le {P : Program} {a b : Caller} (h : LeC a b) {ops : Array Oper} : ∀ (l : List Oper) (ρ : List V) (H : Hp) (r : List V × Hp), aops P a ops l ρ H = some r → aops P b ops l ρ H = some r
  | [], ρ, H, r, hr => hr
  | o :: l, ρ, H, r, hr => by
    simp only [aops] at hr ⊢
    refine obind_le (fun _ q => q) (fun w q hq => ?_) hr
    cases w with
    | true =>
      simp only [if_true] at hq ⊢
      exact obind_le (fun _ q => astep_le h q) (fun p q hq => aops_le h l _ _ _ hq) hq
    | false =>
      simp only [Bool.false_eq_true, if_false] at hq ⊢
      exact aops_le h l _ _ _ hq

theorem gstep_le {P : Program} {a b : Caller} (h : LeC a b) {ops : List Oper} {ρ : List V} {H : Hp} {o : Oper} {r : Bool × V × Hp} (hr : gstep P a ops ρ H o = some r) : gstep P b ops ρ H o = some r := by
  unfold gstep at hr ⊢
  refine obind_le (fun _ q => q) (fun w q hq => ?_) hr
  cases w with
  | true =>
    simp only [if_true] at hq ⊢
    exact obind_le (fun _ q => astep_le h q) (fun p q hq => hq) hq
  | false => exact hq

theorem adr_le {P : Program} {a b : Caller} (h : LeC a b) {ops : List Oper} : ∀ (l : List Oper) (ρ : List V) (H : Hp) (r : List (List V × Hp × Bool × V) × List V × Hp), adr P a ops l ρ H = some r → adr P b ops l ρ H = some r
  | [], ρ, H, r, hr => hr
  | o :: l, ρ, H, r, hr => by
    simp only [adr] at hr ⊢
    refine obind_le (fun _ q => gstep_le h q) (fun p q hq => ?_) hr
    exact obind_le (fun _ q => adr_le h l _ _ _ q) (fun _ _ q => q) hq

theorem adraw_le {P : Program} {a b : Caller} (h : LeC a b) {ops : List Oper} {ρ : List V} {H : Hp} {r : List V × Hp} (hr : adraw P a ops ρ H = some r) : adraw P b ops ρ H = some r := by
  unfold adraw at hr ⊢
  split at hr
  · rename_i hok
    rw [if_pos hok]
    exact obind_le (fun _ q => adr_le h _ _ _ _ q) (fun _ _ q => q) hr
  · cases hr

theorem body_le {C : Ctx} {a b : Caller} {x y : Coder} (h : LeC a b) (k : LeD x y) {f : FuncId} {c : Code} {ρ : List V} {H : Hp} {r : Ex × List V × Hp} (hr : acodeBody C a x f c ρ H = some r) : acodeBody C b y f c ρ H = some r := by
  cases c with
  | skip => exact hr
  | label l => exact hr
  | exit id => exact hr
  | ret => exact hr
  | region id ops d =>
    cases d with
    | false =>
      simp only [acodeBody] at hr ⊢
      exact obind_le (fun _ q => aops_le h _ _ _ _ q) (fun _ _ q => q) hr
    | true =>
      simp only [acodeBody] at hr ⊢
      exact obind_le (fun _ q => adraw_le h q) (fun _ _ q => q) hr
  | seq p q =>
    simp only [acodeBody] at hr ⊢
    refine obind_le (fun _ q => k _ _ _ _ _ q) (fun z q hq => ?_) hr
    obtain ⟨e, ρ', H'⟩ := z
    dsimp only at hq ⊢
    split at hq
    · rename_i he; rw [if_pos he]; exact k _ _ _ _ _ hq
    · rename_i he; rw [if_neg he]; exact hq
  | cond c p q =>
    simp only [acodeBody] at hr ⊢
    split at hr
    · exact k _ _ _ _ _ hr
    · cases hr
  | block id p =>
    simp only [acodeBody] at hr ⊢
    exact obind_le (fun _ q => k _ _ _ _ _ q) (fun _ _ q => q) hr
  | loop p =>
    simp only [acodeBody] at hr ⊢
    refine obind_le (fun _ q => k _ _ _ _ _ q) (fun z q hq => ?_) hr
    obtain ⟨e, ρ', H'⟩ := z
    dsimp only at hq ⊢
    split at hq
    · rename_i he; rw [if_pos he]; exact k _ _ _ _ _ hq
    · rename_i he; rw [if_neg he]; exact hq
  | rangeFunc a b c d => exact hr
  | scope b => exact hr
  | goto l => exact hr
  | refuse w => exact hr

theorem callBody_le {C : Ctx} {x y : Coder} (k : LeD x y) {f : FuncId} {args : List V} {H : Hp} {r : V × Hp} (hr : acallBody C x f args H = some r) : acallBody C y f args H = some r := by
  unfold acallBody at hr ⊢
  split at hr
  · rename_i hs; rw [if_pos hs]; exact hr
  · rename_i hs
    rw [if_neg hs]
    cases hf : C.P.funcs[f]? with
    | none => rw [hf] at hr; cases hr
    | some fn =>
      rw [hf] at hr
      dsimp only at hr ⊢
      cases hb : fn.body with
      | none => rw [hb] at hr; cases hr
      | some c =>
        rw [hb] at hr
        dsimp only at hr ⊢
        split at hr
        · cases hr
        · rename_i hn
          rw [if_neg hn]
          exact obind_le (fun _ q => k _ _ _ _ _ q) (fun _ _ q => q) hr

theorem mono_step (C : Ctx) : ∀ k, LeD (acode C k) (acode C (k + 1)) ∧ LeC (acall C k) (acall C (k + 1)) := by
  intro k
  induction k with
  | zero => exact ⟨fun f c ρ H r h => by (cases h), fun f a H r h => by (cases h)⟩
  | succ k ih => exact ⟨fun f c ρ H r h => body_le ih.2 ih.1 h, fun f a H r h => callBody_le ih.1 h⟩

theorem mono (C : Ctx) (k : Nat) : ∀ d, LeD (acode C k) (acode C (k + d)) ∧ LeC (acall C k) (acall C (k + d)) := by
  intro d
  induction d with
  | zero => exact ⟨fun f c ρ H r h => h, fun f a H r h => h⟩
  | succ d ih => exact ⟨fun f c ρ H r h => (mono_step C (k + d)).1 _ _ _ _ _ (ih.1 _ _ _ _ _ h), fun f a H r h => (mono_step C (k + d)).2 _ _ _ _ (ih.2 _ _ _ _ h)⟩

theorem mono_code {C : Ctx} {k k' : Nat} (hk : k ≤ k') : LeD (acode C k) (acode C k') := by
  have := (mono C k (k' - k)).1
  rwa [show k + (k' - k) = k' from by omega] at this

theorem mono_call {C : Ctx} {k k' : Nat} (hk : k ≤ k') : LeC (acall C k) (acall C k') := by
  have := (mono C k (k' - k)).2
  rwa [show k + (k' - k) = k' from by omega] at this

open Classical in
/-- What a call comes to, whatever the number of rounds. -/
noncomputable def callL (C : Ctx) : Caller := fun f args H => if h : ∃ r k, acall C k f args H = some r then some h.choose else none

open Classical in
noncomputable def codeL (C : Ctx) : Coder := fun f c ρ H => if h : ∃ r k, acode C k f c ρ H = some r then some h.choose else none

theorem callL_some {C : Ctx} {f : FuncId} {args : List V} {H : Hp} {r : V × Hp} : callL C f args H = some r ↔ ∃ k, acall C k f args H = some r := by
  unfold callL
  constructor
  · intro h
    split at h
    · rename_i hh; cases h; exact hh.choose_spec
    · cases h
  · rintro ⟨k, hk⟩
    have hh : ∃ r k, acall C k f args H = some r := ⟨r, k, hk⟩
    rw [dif_pos hh]
    obtain ⟨k', hk'⟩ := hh.choose_spec
    have h1 := mono_call (Nat.le_max_left k k') _ _ _ _ hk
    have h2 := mono_call (Nat.le_max_right k k') _ _ _ _ hk'
    rw [h1] at h2
    exact h2.symm

theorem codeL_some {C : Ctx} {f : FuncId} {c : Code} {ρ : List V} {H : Hp} {r : Ex × List V × Hp} : codeL C f c ρ H = some r ↔ ∃ k, acode C k f c ρ H = some r := by
  unfold codeL
  constructor
  · intro h
    split at h
    · rename_i hh; cases h; exact hh.choose_spec
    · cases h
  · rintro ⟨k, hk⟩
    have hh : ∃ r k, acode C k f c ρ H = some r := ⟨r, k, hk⟩
    rw [dif_pos hh]
    obtain ⟨k', hk'⟩ := hh.choose_spec
    have h1 := mono_code (Nat.le_max_left k k') _ _ _ _ _ hk
    have h2 := mono_code (Nat.le_max_right k k') _ _ _ _ _ hk'
    rw [h1] at h2
    exact h2.symm

theorem le_callL (C : Ctx) (k : Nat) : LeC (acall C k) (callL C) := fun f args H r h => callL_some.2 ⟨k, h⟩
theorem le_codeL (C : Ctx) (k : Nat) : LeD (acode C k) (codeL C) := fun f c ρ H r h => codeL_some.2 ⟨k, h⟩

/-- A finite piece needs a finite number of rounds. -/
theorem astep_lim {C : Ctx} {ρ : List V} {H : Hp} {o : Op} {r : V × Hp} (h : astep C.P (callL C) ρ H o = some r) : ∃ k, astep C.P (acall C k) ρ H o = some r := by
  unfold astep at h ⊢
  cases hc : isCall o with
  | none => rw [hc] at h; exact ⟨0, h⟩
  | some c =>
    rw [hc] at h
    dsimp only at h ⊢
    obtain ⟨⟨f, args⟩, h1, h2⟩ := obind h
    dsimp only at h2
    obtain ⟨k, hk⟩ := callL_some.1 h2
    exact ⟨k, by rw [h1]; exact hk⟩

theorem aops_lim {C : Ctx} {ops : Array Oper} : ∀ (l : List Oper) (ρ : List V) (H : Hp) (r : List V × Hp), aops C.P (callL C) ops l ρ H = some r → ∃ k, aops C.P (acall C k) ops l ρ H = some r
  | [], ρ, H, r, h => ⟨0, h⟩
  | o :: l, ρ, H, r, h => by
    simp only [aops] at h ⊢
    obtain ⟨w, h1, h2⟩ := obind h
    rw [h1]
    simp only [Option.bind_some]
    cases w with
    | true =>
      simp only [if_true] at h2 ⊢
      obtain ⟨⟨v, H'⟩, h3, h4⟩ := obind h2
      obtain ⟨k1, hk1⟩ := astep_lim h3
      obtain ⟨k2, hk2⟩ := aops_lim l _ _ _ h4
      refine ⟨max k1 k2, ?_⟩
      rw [astep_le (mono_call (Nat.le_max_left k1 k2)) hk1]
      exact aops_le (mono_call (Nat.le_max_right k1 k2)) _ _ _ _ hk2
    | false =>
      simp only [Bool.false_eq_true, if_false] at h2 ⊢
      exact aops_lim l _ _ _ h2

theorem adr_lim {C : Ctx} {ops : List Oper} : ∀ (l : List Oper) (ρ : List V) (H : Hp) (r : List (List V × Hp × Bool × V) × List V × Hp), adr C.P (callL C) ops l ρ H = some r → ∃ k, adr C.P (acall C k) ops l ρ H = some r
  | [], ρ, H, r, h => ⟨0, h⟩
  | o :: l, ρ, H, r, h => by
    simp only [adr] at h ⊢
    obtain ⟨⟨b, v, H'⟩, h1, h2⟩ := obind h
    dsimp only at h2
    obtain ⟨⟨tr, ρ', H''⟩, h3, h4⟩ := obind h2
    have : ∃ k, gstep C.P (acall C k) ops ρ H o = some (b, v, H') := by
      unfold gstep at h1 ⊢
      obtain ⟨w, q1, q2⟩ := obind h1
      rw [q1]
      simp only [Option.bind_some]
      cases w with
      | true =>
        simp only [if_true] at q2 ⊢
        obtain ⟨⟨v', H2⟩, q3, q4⟩ := obind q2
        obtain ⟨k, hk⟩ := astep_lim q3
        exact ⟨k, by rw [hk]; exact q4⟩
      | false => exact ⟨0, q2⟩
    obtain ⟨k1, hk1⟩ := this
    obtain ⟨k2, hk2⟩ := adr_lim l _ _ _ h3
    refine ⟨max k1 k2, ?_⟩
    rw [gstep_le (mono_call (Nat.le_max_left k1 k2)) hk1]
    simp only [Option.bind_some]
    rw [adr_le (mono_call (Nat.le_max_right k1 k2)) _ _ _ _ hk2]
    exact h4

theorem codeL_eq (C : Ctx) (f : FuncId) (c : Code) (ρ : List V) (H : Hp) : codeL C f c ρ H = acodeBody C (callL C) (codeL C) f c ρ H := by
  apply Option.ext
  intro r
  rw [show (codeL C f c ρ H = some r) = (codeL C f c ρ H = some r) from rfl]
  constructor
  · intro h
    obtain ⟨k, hk⟩ := codeL_some.1 h
    cases k with
    | zero => cases hk
    | succ k => exact body_le (le_callL C k) (le_codeL C k) hk
  · intro h
    have fin : ∀ k, acodeBody C (acall C k) (acode C k) f c ρ H = some r → codeL C f c ρ H = some r := fun k hk => codeL_some.2 ⟨k + 1, hk⟩
    cases c with
    | skip => exact fin 0 h
    | label l => exact fin 0 h
    | exit id => exact fin 0 h
    | ret => exact fin 0 h
    | region id ops d =>
      cases d with
      | false =>
        simp only [acodeBody] at h
        obtain ⟨⟨ρ', H'⟩, h1, h2⟩ := obind h
        obtain ⟨k, hk⟩ := aops_lim _ _ _ _ h1
        refine fin k ?_
        simp only [acodeBody]
        rw [hk]; exact h2
      | true =>
        simp only [acodeBody] at h
        obtain ⟨⟨ρ', H'⟩, h1, h2⟩ := obind h
        have : ∃ k, adraw C.P (acall C k) ops.toList ρ H = some (ρ', H') := by
          unfold adraw at h1 ⊢
          split at h1
          · rename_i hok
            obtain ⟨⟨tr, ρ2, H2⟩, q1, q2⟩ := obind h1
            obtain ⟨k, hk⟩ := adr_lim _ _ _ _ q1
            exact ⟨k, by rw [if_pos hok, hk]; exact q2⟩
          · cases h1
        obtain ⟨k, hk⟩ := this
        refine fin k ?_
        simp only [acodeBody]
        rw [hk]; exact h2
    | seq p q =>
      simp only [acodeBody] at h
      obtain ⟨⟨e, ρ', H'⟩, h1, h2⟩ := obind h
      dsimp only at h2
      obtain ⟨k1, hk1⟩ := codeL_some.1 h1
      split at h2
      · rename_i he
        obtain ⟨k2, hk2⟩ := codeL_some.1 h2
        refine fin (max k1 k2) ?_
        simp only [acodeBody]
        rw [mono_code (Nat.le_max_left k1 k2) _ _ _ _ _ hk1]
        simp only [Option.bind_some]
        rw [if_pos he]
        exact mono_code (Nat.le_max_right k1 k2) _ _ _ _ _ hk2
      · rename_i he
        refine fin k1 ?_
        simp only [acodeBody]
        rw [hk1]
        simp only [Option.bind_some]
        rw [if_neg he]; exact h2
    | cond c p q =>
      simp only [acodeBody] at h
      split at h
      · rename_i t ht
        obtain ⟨k, hk⟩ := codeL_some.1 h
        refine fin k ?_
        simp only [acodeBody]
        rw [ht]; exact hk
      · cases h
    | block id p =>
      simp only [acodeBody] at h
      obtain ⟨⟨e, ρ', H'⟩, h1, h2⟩ := obind h
      obtain ⟨k, hk⟩ := codeL_some.1 h1
      refine fin k ?_
      simp only [acodeBody]
      rw [hk]; exact h2
    | loop p =>
      simp only [acodeBody] at h
      obtain ⟨⟨e, ρ', H'⟩, h1, h2⟩ := obind h
      dsimp only at h2
      obtain ⟨k1, hk1⟩ := codeL_some.1 h1
      split at h2
      · rename_i he
        obtain ⟨k2, hk2⟩ := codeL_some.1 h2
        refine fin (max k1 k2) ?_
        simp only [acodeBody]
        rw [mono_code (Nat.le_max_left k1 k2) _ _ _ _ _ hk1]
        simp only [Option.bind_some]
        rw [if_pos he]
        exact mono_code (Nat.le_max_right k1 k2) _ _ _ _ _ hk2
      · rename_i he
        refine fin k1 ?_
        simp only [acodeBody]
        rw [hk1]
        simp only [Option.bind_some]
        rw [if_neg he]; exact h2
    | rangeFunc a b c d => simp only [acodeBody] at h; cases h
    | scope b => simp only [acodeBody] at h; cases h
    | goto l => simp only [acodeBody] at h; cases h
    | refuse w => simp only [acodeBody] at h; cases h

theorem callL_eq (C : Ctx) (f : FuncId) (args : List V) (H : Hp) : callL C f args H = acallBody C (codeL C) f args H := by
  apply Option.ext
  intro r
  constructor
  · intro h
    obtain ⟨k, hk⟩ := callL_some.1 h
    cases k with
    | zero => cases hk
    | succ k => exact callBody_le (le_codeL C k) hk
  · intro h
    unfold acallBody at h
    split at h
    · rename_i hs
      refine callL_some.2 ⟨1, ?_⟩
      show acallBody C (acode C 0) f args H = some r
      unfold acallBody
      rw [if_pos hs]; exact h
    · rename_i hs
      cases hf : C.P.funcs[f]? with
      | none => rw [hf] at h; cases h
      | some fn =>
        rw [hf] at h
        dsimp only at h
        cases hb : fn.body with
        | none => rw [hb] at h; cases h
        | some c =>
          rw [hb] at h
          dsimp only at h
          split at h
          · cases h
          · rename_i hn
            obtain ⟨⟨e, ρ', H'⟩, h1, h2⟩ := obind h
            obtain ⟨k, hk⟩ := codeL_some.1 h1
            refine callL_some.2 ⟨k + 1, ?_⟩
            show acallBody C (acode C k) f args H = some r
            unfold acallBody
            rw [if_neg hs, hf]
            dsimp only
            rw [hb]
            dsimp only
            rw [if_neg hn, hk]
            exact h2

/-- What a call comes to stands for a call of the model. -/
theorem callL_ok (C : Ctx) (hm : C.P.follows .mixedOrders = true) (hS : SameOk C) : CallOk C.P (callL C) := by
  intro f args H v H' h
  obtain ⟨k, hk⟩ := callL_some.1 h
  exact calls_of C hm hS k f args H v H' hk

end Go.Am
