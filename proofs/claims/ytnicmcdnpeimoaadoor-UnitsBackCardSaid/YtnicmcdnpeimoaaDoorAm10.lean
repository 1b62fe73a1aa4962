/-
  Calls and straight code: what the abstract machine says of them holds of the model.
-/
import Derived.Test.YtnicmcdnpeimoaaDoorAm9
set_option linter.unusedVariables false
set_option linter.unusedSimpArgs false
namespace Go.Am
open Go.RowKit

variable {P : Program} {w0 w : World} {M : Mp} {H : Hp}

theorem ev_rel (hR : Rel w0 M H w) {ρ : List V} {a : Act} (h : VRs M ρ a.tmps.toList) (x : Operand) : VR M (ev ρ x) (a.eval x) := by
  cases x with
  | tmp t =>
    simp only [ev, Act.eval]
    cases ht : ρ[t]? with
    | none =>
      have : ρ.getD t .junk = .junk := by rw [List.getD_eq_getElem?_getD, ht]; rfl
      rw [this]; simp only [VR]
    | some v =>
      obtain ⟨u, h1, h2⟩ := VRs_get h ht
      have e1 : ρ.getD t .junk = v := by rw [List.getD_eq_getElem?_getD, ht]; rfl
      have e2 : a.tmps.getD t undef = u := by
        rw [Array.getElem?_toList] at h1
        rw [Array.getD_eq_getD_getElem?, h1]; rfl
      rw [e1, e2]; exact h2
  | const v => exact VR_s v
  | global g =>
    simp only [ev, Act.eval]
    split
    · rename_i hg
      obtain ⟨L, h1, h2⟩ := hR.glob g hg
      simp only [VR]
      exact ⟨_, L, rfl, h1, Nat.zero_le _, fun e => by rw [(h2 e).1, (h2 e).2]⟩
    · simp only [VR]
  | func f =>
    simp only [ev, Act.eval, VR]
    exact ⟨[], [], rfl, by simp only [VRs], by simp only [VRs]⟩

theorem put_rel {ρ : List V} {a : Act} (h : VRs M ρ a.tmps.toList) (d : Option Tmp) {v : V} {u : Value} (hv : VR M v u) : VRs M (put ρ d v) (a.put d u).tmps.toList := by
  cases d with
  | none => exact h
  | some d =>
    simp only [put, Act.put]
    have hl := VRs_length h
    simp only [Array.length_toList] at hl
    refine VRs_of_get (by simp; exact hl) fun i x y hx hy => ?_
    rw [Array.getElem?_toList, Array.getElem?_setIfInBounds] at hy
    rw [List.getElem?_set] at hx
    by_cases hd : d = i
    · subst hd
      simp only [if_true] at hx hy
      split at hx
      · rename_i hlt
        rw [if_pos (by omega)] at hy
        cases hx; cases hy; exact hv
      · cases hx
    · simp only [hd, if_false] at hx hy
      obtain ⟨y', e1, e2⟩ := VRs_get h hx
      rw [Array.getElem?_toList] at e1
      rw [e1] at hy; cases hy; exact e2

theorem kill_rel : ∀ (ρ : List V) (l : List Bool) (us : List Value), VRs M ρ us → VRs M (kill ρ l) us
  | [], l, us, h => by simpa only [kill] using h
  | x :: xs, [], us, h => by simpa only [kill] using h
  | x :: xs, b :: bs, us, h => by
    simp only [VRs] at h
    obtain ⟨u, us', rfl, h1, h2⟩ := h
    simp only [kill, VRs]
    refine ⟨u, us', rfl, ?_, kill_rel xs bs us' h2⟩
    cases b
    · simp only [cond_false, VR]
    · simpa only [cond_true] using h1

theorem put_defers (a : Act) (d : Option Tmp) (u : Value) : (a.put d u).defers = a.defers := by cases d <;> rfl

/-! ### The callee -/

inductive PR (M : Mp) : Place → Go.Place → Prop
  | val {v : V} {u : Value} : VR M v u → PR M (.val v) (.val u)
  | var {n g off : Nat} {a : Addr} : VR M (.ptr n g off) (.pointer (some a)) → PR M (.var n g off) (.var a)

theorem VR_add {n g off k : Nat} {a : Addr} (h : VR M (.ptr n g off) (.pointer (some a))) : VR M (.ptr n g (off + k)) (.pointer (some (a.add k))) := by
  simp only [VR] at h ⊢
  obtain ⟨a', L, e, h1, h2, h3⟩ := h
  cases e
  exact ⟨_, L, rfl, h1, h2, fun q => by rw [h3 q, add_none, Nat.add_assoc]⟩

theorem follow_sound : ∀ (l : List FieldStep) (t : TypeId) (x : Place) (y : Go.Place) (r : TypeId × Place), PR M x y → Am.follow P H l t x = some r →
    ∃ z, (Go.follow l t y).run P w = .ok (r.1, z) w ∧ PR M r.2 z
  | [], t, x, y, r, hp, h => by
    simp only [Am.follow] at h; cases h
    exact ⟨y, rfl, hp⟩
  | s :: rest, t, x, y, r, hp, h => by
    simp only [Am.follow] at h
    cases hu : P.underlying s.struct with
    | none => rw [hu] at h; cases h
    | some d =>
      rw [hu] at h
      cases d <;> try (cases h; done)
      rename_i fields
      dsimp only at h
      obtain ⟨f, h1, ha⟩ := obind h
      clear h
      obtain ⟨k, h2, h⟩ := obind ha
      clear ha
      split at h
      · cases h
      · rename_i hk
        split at h
        · rename_i n g off hd
          cases hp with
          | val hv =>
            have hv' := hv
            simp only [VR] at hv'
            obtain ⟨a, L, rfl, e1, e2, e3⟩ := hv'
            obtain ⟨z, q1, q2⟩ := follow_sound rest f.type _ (.var (a.add f.offset)) r (.var (VR_add hv)) h
            refine ⟨z, ?_, q2⟩
            unfold Go.follow
            simp only [Sem.run_bind, run_under hu, Result.andThen_ok, h1, hd, if_true, Place.get, Sem.run_pure, asAddr, fieldPlace, sizeOf_run h2, hk, if_false, q1]
        · rename_i n g off hd
          cases hp with
          | var hv =>
            rename_i a
            obtain ⟨z, q1, q2⟩ := follow_sound rest f.type _ (.var (a.add f.offset)) r (.var (VR_add hv)) h
            refine ⟨z, ?_, q2⟩
            unfold Go.follow
            simp only [Sem.run_bind, run_under hu, Result.andThen_ok, h1, hd, Bool.false_eq_true, if_false, Sem.run_pure, fieldPlace, sizeOf_run h2, hk, q1]
        · cases h

theorem callFunc_run {f : FuncId} {fn : Func} {c : Code} (hf : P.funcs[f]? = some fn) (hb : fn.body = some c) (hn : (fn.name == "runtime.NumGoroutine") = false) (args : Array Value) (w : World) :
    (callFunc f args).run P w = .ok (.enter f args) w := by
  unfold callFunc
  simp only [Sem.run_bind, run_program, Result.andThen_ok, hf, hn, Bool.false_eq_true, if_false, hb, Option.isNone_some, Sem.run_pure]

theorem callee_sound (hR : Rel w0 M H w) {ρ : List V} {a : Act} (hev : ∀ x, VR M (ev ρ x) (a.eval x)) {c : Call} {f : FuncId} {args : List V} (h : acallee P ρ H c = some (f, args)) (ty : TypeId) :
    ∃ us : List Value, VRs M args us ∧ (do let d ← resolve a.eval c ty; invoke d.target d.args : Sem Next).run P w = (callFunc f us.toArray).run P w := by
  obtain ⟨callee, xs, ats⟩ := c
  have hxs := ev_map ρ a hev xs.toList
  have hxe : xs.map a.eval = (xs.toList.map a.eval).toArray := by apply Array.ext'; simp
  cases callee with
  | builtin b => simp [acallee] at h
  | value g =>
    simp only [acallee] at h
    have hg := hev g
    split at h
    · rename_i f' fst cap hv
      cases h
      rw [hv] at hg
      simp only [VR] at hg
      obtain ⟨as, cs, e1, e3, e2⟩ := hg
      refine ⟨as ++ xs.toList.map a.eval ++ cs, VRs_append (VRs_append e3 hxs) e2, ?_⟩
      simp only [resolve, Sem.run_bind, e1, Deferred.ofValue, Sem.run_pure, Result.andThen_ok, invoke]
      congr 2
      apply Array.ext'; simp
    · cases h
  | invoke r name =>
    simp only [acallee] at h
    have hg := hev r
    split at h
    · rename_i t v hv
      rw [hv] at hg
      simp only [VR] at hg
      obtain ⟨u, e1, e2⟩ := hg
      obtain ⟨i, hi, ha⟩ := obind h
      clear h
      obtain ⟨m, hm, h⟩ := obind ha
      clear ha
      cases hmf : m.func with
      | none => rw [hmf] at h; cases h
      | some p =>
        obtain ⟨f', pr⟩ := p
        rw [hmf] at h
        dsimp only at h
        obtain ⟨⟨xt, x⟩, hfo, ha⟩ := obind h
        clear h
        dsimp only at ha
        obtain ⟨d, hd, h⟩ := obind ha
        clear ha
        obtain ⟨z, q1, q2⟩ := follow_sound (w := w) m.path.toList t (.val v) (.val u) (xt, x) (.val e2) hfo
        have hmd : 0 < Made.depth := by decide
        obtain ⟨k, hk⟩ : ∃ k, P.types.size + Made.depth = k + 1 := ⟨P.types.size + Made.depth - 1, by omega⟩
        have hrecv : ∀ (rv : Value) (args' : List V), args = args' → f' = f →
            (receiverAt xt z pr (if m.path.isEmpty then some ((name.splitOn ".").getLastD name) else none)).run P w = .ok rv w →
            (do let d ← resolve a.eval { callee := .invoke r name, args := xs, argTypes := ats } ty; invoke d.target d.args : Sem Next).run P w = (callFunc f (rv :: xs.toList.map a.eval).toArray).run P w := by
          intro rv args' _ hff hrun
          subst hff
          have hL : #[a.eval r] ++ xs.map a.eval = (a.eval r :: xs.toList.map a.eval).toArray := by apply Array.ext'; simp
          have h0 : (#[a.eval r] ++ xs.map a.eval)[0]? = some (.iface t u) := by rw [hL, e1]; rfl
          have h1 : (#[a.eval r] ++ xs.map a.eval).extract 1 (#[a.eval r] ++ xs.map a.eval).size = xs.map a.eval := by
            apply Array.ext'
            simp [Array.toList_extract, List.extract_eq_take_drop, List.take_of_length_le]
          simp only [resolve, Sem.run_bind, Sem.run_pure, Result.andThen_ok, invoke, h0, callMethod, h1, run_program, hk]
          simp only [method, Sem.run_bind, info_run hi, Result.andThen_ok, hm, q1, hmf, hrun, Sem.run_pure]
          congr 2
          apply Array.ext'; simp
        split at h
        · cases h
          cases q2 with
          | val hv2 =>
            rename_i rv
            refine ⟨rv :: xs.toList.map a.eval, by simp only [VRs]; exact ⟨rv, _, rfl, hv2, hxs⟩, hrecv rv _ rfl rfl ?_⟩
            unfold receiverAt
            simp only [Sem.run_bind, run_under hd, Result.andThen_ok, Place.get, Sem.run_pure]
        · cases h
        · rename_i hne
          cases h
          cases q2 with
          | var hv2 =>
            rename_i rv
            refine ⟨.pointer (some rv) :: xs.toList.map a.eval, by simp only [VRs]; exact ⟨_, _, rfl, hv2, hxs⟩, hrecv _ _ rfl rfl ?_⟩
            unfold receiverAt
            simp only [Sem.run_bind, run_under hd, Result.andThen_ok, Sem.run_pure]
        · rename_i hne
          cases h
          cases q2 with
          | val hv2 =>
            rename_i rv
            refine ⟨rv :: xs.toList.map a.eval, by simp only [VRs]; exact ⟨rv, _, rfl, hv2, hxs⟩, hrecv rv _ rfl rfl ?_⟩
            unfold receiverAt
            simp only [Sem.run_bind, run_under hd, Result.andThen_ok, Sem.run_pure]
            cases d <;> first | rfl | (exact absurd rfl (hne _))
        · cases h
    · cases h

end Go.Am
