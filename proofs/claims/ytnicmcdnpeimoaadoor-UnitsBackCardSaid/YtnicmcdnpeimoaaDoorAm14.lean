/-
  Regions whose order is open: the theorem; and calls of the abstract machine, whatever orders are drawn.
-/
import Derived.Test.YtnicmcdnpeimoaaDoorAm13
set_option linter.unusedVariables false
set_option linter.unusedSimpArgs false
namespace Go.Am
open Go.RowKit

variable {P : Program} {w0 w : World} {M : Mp} {H : Hp}

theorem zip_get {α : Type} {l : List α} {i : Nat} {o : α} (h : l[i]? = some o) : (o, i) ∈ l.zipIdx := by
  rw [List.mem_zipIdx_iff_getElem?]; exact h

structure DrawFacts (ops : List Oper) : Prop where
  back : ∀ (i : Nat) (o : Oper), ops[i]? = some o → ∀ e ∈ o.after, Region.binds .any e = true → e.on < i
  clash : ∀ (i j : Nat) (o q : Oper), ops[i]? = some o → ops[j]? = some q → j < i → Am.clash ops o q = true → Anc ops j i
  impure : ∀ (i j : Nat) (o q : Oper), ops[i]? = some o → ops[j]? = some q → j < i → opKind o.op = 2 → opKind q.op = 2 → Anc ops j i

theorem drawOk_facts {ops : List Oper} (h : drawOk ops = true) : DrawFacts ops := by
  unfold drawOk at h
  dsimp only at h
  simp only [Bool.and_eq_true, List.all_eq_true] at h
  obtain ⟨h1, h2⟩ := h
  have h1' : ∀ (i : Nat) (o : Oper), ops[i]? = some o → ∀ e ∈ o.after.toList, (!Region.binds .any e || decide (e.on < i)) = true := fun i o ho => h1 (o, i) (zip_get ho)
  have h2' : ∀ (i j : Nat) (o q : Oper), ops[i]? = some o → ops[j]? = some q → (!(decide (j < i)) || (!(Am.clash ops o q) && !(opKind o.op == 2 && opKind q.op == 2)) || ((masks ops []).getD i 0).testBit j) = true :=
    fun i j o q ho hq => h2 (o, i) (zip_get ho) (q, j) (zip_get hq)
  refine ⟨fun i o ho e he hb => ?_, fun i j o q ho hq hji hc => ?_, fun i j o q ho hq hji k1 k2 => ?_⟩
  · have := h1' i o ho e (by simpa using he)
    rw [hb] at this
    simpa using this
  · have := h2' i j o q ho hq
    rw [hc] at this
    simp only [decide_eq_true hji, Bool.not_true, Bool.false_or, Bool.false_and] at this
    exact masks_anc ops i j this
  · have := h2' i j o q ho hq
    simp only [decide_eq_true hji, Bool.not_true, k1, k2, beq_self_eq_true, Bool.and_self, Bool.false_or, Bool.and_false] at this
    exact masks_anc ops i j this

theorem mem_tmps {ops : List Oper} {o : Oper} {t : Tmp} (h : .tmp t ∈ o.op.operands) : t ∈ tmpsOf ops o := by
  unfold tmpsOf
  rw [List.mem_append, List.mem_filterMap]
  exact .inr ⟨.tmp t, by simpa using h, rfl⟩

theorem mem_guard {ops : List Oper} {o : Oper} {j : Nat} {want : Bool} {d : Tmp} (h : o.guard = some (j, want)) (hd : (ops[j]?).bind (·.dst) = some d) : d ∈ tmpsOf ops o := by
  unfold tmpsOf
  rw [List.mem_append, h]
  dsimp only
  rw [hd]
  exact .inl (List.mem_singleton.2 rfl)

theorem clash_of_look {ops : List Oper} {o q : Oper} {t : Tmp} (hq : q.dst = some t) (ho : t ∈ tmpsOf ops o) : Am.clash ops o q = true ∧ Am.clash ops q o = true := by
  constructor
  · unfold Am.clash
    rw [hq]
    simp [ho]
  · unfold Am.clash
    rw [hq]
    simp [ho]

theorem clash_of_write {ops : List Oper} {o q : Oper} {t : Tmp} (hq : q.dst = some t) (ho : o.dst = some t) : Am.clash ops o q = true := by
  unfold Am.clash
  rw [hq, ho]
  simp

/-- What has been done lies below itself. -/
def Down (ops : List Oper) (S : Nat → Bool) : Prop := ∀ (j : Nat) (o : Oper), S j = true → ops[j]? = some o → ∀ e ∈ o.after, Region.binds .any e = true → S e.on = true

theorem anc_done {ops : List Oper} {S : Nat → Bool} (hD : Down ops S) {i j : Nat} (h : Anc ops i j) : (S j = true ∨ ∀ o, ops[j]? = some o → ∀ e ∈ o.after, Region.binds .any e = true → S e.on = true) → S i = true := by
  induction h with
  | edge ho he hb =>
    intro h
    rcases h with h | h
    · exact hD _ _ h ho _ he hb
    · exact h _ ho _ he hb
  | step ho he hb _ ih =>
    intro h
    apply ih
    rcases h with h | h
    · exact .inl (hD _ _ h ho _ he hb)
    · exact .inl (h _ ho _ he hb)

theorem heapAt_eq {l : List Oper} {tr : List (List V × Hp × Bool × V)} {R : Nat → List V} {Hs : Nat → Hp} {bs : Nat → Bool} {vs : Nat → V} {HN : Hp} (hl : tr.length = l.length) (hN : Hs l.length = HN)
    (h : ∀ i o, l[i]? = some o → tr[i]? = some (R i, Hs i, bs i, vs i)) (j : Nat) (hj : j ≤ l.length) : heapAt tr HN j = Hs j := by
  unfold heapAt
  by_cases hjl : j < l.length
  · rw [h j l[j] (List.getElem?_eq_getElem hjl)]
  · have : j = l.length := by omega
    subst this
    rw [List.getElem?_eq_none (by omega), hN]

theorem repl_getD (n k : Nat) : (Array.replicate n false).getD k false = false := by
  rw [Array.getD_eq_getD_getElem?]
  by_cases h : k < n
  · rw [Array.getElem?_eq_getElem (by simpa using h)]; simp
  · rw [Array.getElem?_eq_none (by simpa using h)]; rfl

theorem draw_ok (hm : P.follows .mixedOrders = true) : DrawOk P := by
  intro call hC opsA id ρ ρ' H H' hrun w0 w M a Q hR hv hQ
  unfold adraw at hrun
  split at hrun
  case isFalse => cases hrun
  rename_i hok
  obtain ⟨⟨tr, ρ2, H2⟩, hadr, h2⟩ := obind hrun
  clear hrun
  dsimp only at h2
  split at h2
  case isFalse => cases h2
  rename_i hst
  cases h2
  generalize hops : opsA.toList = ops at *
  have hopsA : ∀ i, opsA[i]? = ops[i]? := fun i => by rw [← hops, Array.getElem?_toList]
  have hsize : opsA.size = ops.length := by rw [← hops, Array.length_toList]
  obtain ⟨F2, F3, F4⟩ := drawOk_facts hok
  obtain ⟨htl, R, Hs, bs, vs, r1, r2, r3, r4, r5⟩ := adr_spec ops ops ρ ρ' H H' tr hadr
  have hopsT : ops.toArray = opsA := by rw [← hops]
  have hstab : ∀ (i : Nat) (o : Oper) (j : Nat), ops[i]? = some o → opKind o.op = 1 → bs i = true → j ≤ ops.length → (j = 0 ∨ ∃ q, ops[j - 1]? = some q ∧ opKind q.op = 2) → mayAt ops (masks ops []) i j = true →
      aop P (R i) (Hs j) o.op = some (vs i, Hs j) := by
    intro i o j ho hk hbi hj hjj hmay
    unfold stable at hst
    dsimp only at hst
    rw [List.all_eq_true] at hst
    have hmem : ((o, i), (R i, Hs i, bs i, vs i)) ∈ ops.zipIdx.zip tr := by
      rw [List.mem_iff_getElem?]
      refine ⟨i, ?_⟩
      rw [List.getElem?_zip_eq_some]
      refine ⟨?_, (r5 i o ho).1⟩
      rw [List.getElem?_zipIdx, ho]; simp
    have := hst _ hmem
    dsimp only at this
    rw [hk, hbi] at this
    simp only [beq_self_eq_true, Bool.not_true, Bool.false_or, List.all_eq_true, List.mem_range] at this
    have := this j (by omega)
    have hcond : (decide (j = 0) || impAt ops (j - 1)) = true := by
      rcases hjj with rfl | ⟨q, hq, hqk⟩
      · simp
      · unfold impAt; rw [hq]; simp [hqk]
    rw [hcond, hmay] at this
    simp only [Bool.not_true, Bool.false_or] at this
    unfold sameRead at this
    rw [heapAt_eq htl r4 (fun i o ho => (r5 i o ho).1) j hj] at this
    cases hq : aop P (R i) (Hs j) o.op with
    | none => rw [hq] at this; cases this
    | some p =>
      obtain ⟨v', Hq⟩ := p
      rw [hq] at this
      dsimp only at this
      rw [V.beq_eq _ _ this, kind1_heap hk hq]
  have hkeep : ∀ (i : Nat) (o : Oper), ops[i]? = some o → opKind o.op ≠ 2 → Hs (i + 1) = Hs i := by
    intro i o ho hk
    have h1 := (r5 i o ho).2.1
    unfold gstep at h1
    obtain ⟨b, hb, h2⟩ := obind h1
    clear h1
    cases b with
    | false => simp only [Bool.false_eq_true, if_false] at h2; exact (Prod.mk.inj (Prod.mk.inj (Option.some.inj h2)).2).2.symm
    | true =>
      simp only [if_true] at h2
      obtain ⟨⟨v', H'⟩, h1, h3⟩ := obind h2
      clear h2
      dsimp only at h3
      have h4 := Option.some.inj h3
      have e1 : v' = vs i := (Prod.mk.inj (Prod.mk.inj h4).2).1
      have e2 : H' = Hs (i + 1) := (Prod.mk.inj (Prod.mk.inj h4).2).2
      rw [e1, e2] at h1
      unfold astep at h1
      rw [kind_isCall hk] at h1
      dsimp only at h1
      have hk01 : opKind o.op = 0 ∨ opKind o.op = 1 := by
        have := opKind_le o.op
        omega
      rcases hk01 with hk0 | hk1
      · have := kind0_heap hk0 h1 (Hs i)
        rw [h1] at this
        exact (Prod.mk.inj (Option.some.inj this)).2
      · exact kind1_heap hk1 h1
  have hkeeps : ∀ d j, j + d ≤ ops.length → (∀ (p : Nat) (o : Oper), j ≤ p → p < j + d → ops[p]? = some o → opKind o.op ≠ 2) → Hs (j + d) = Hs j := by
    intro d
    induction d with
    | zero => intro j _ _; rfl
    | succ d ih =>
      intro j hj h
      have ho : ops[j + d]? = some ops[j + d] := List.getElem?_eq_getElem (by omega)
      rw [← Nat.add_assoc, hkeep (j + d) _ ho (h _ _ (by omega) (by omega) ho)]
      exact ih j (by omega) (fun p o h1 h2 => h p o h1 (by omega))
  -- the walk through whatever order
  have key : ∀ (fuel : Nat) (listed : Array Bool) (a' : Act) (w' : World) (M' : Mp) (j : Nat),
      listed.size = ops.length → Down ops (fun k => listed.getD k false) → ((List.range ops.length).filter fun k => !listed.getD k false).length = fuel →
      a'.defers = a.defers → j ≤ ops.length → (j = 0 ∨ ∃ q, ops[j - 1]? = some q ∧ opKind q.op = 2) → (∀ p o, ops[p]? = some o → opKind o.op = 2 → (listed.getD p false = true ↔ p < j)) →
      VRs M' (RS ops vs (fun k => listed.getD k false) ρ ops.length) a'.tmps.toList → Rel w0 M' (Hs j) w' → Ext M M' →
      wpAny P .any opsA Q fuel listed a' w' := by
    intro fuel
    induction fuel with
    | zero =>
      intro listed a' w' M' j hls hD hcount hdef hj hjj himp hregs hRel hExt
      have hall : ∀ k, k < ops.length → listed.getD k false = true := by
        intro k hk
        have hnil := List.length_eq_zero_iff.1 hcount
        rw [List.filter_eq_nil_iff] at hnil
        have := hnil k (by simpa using hk)
        simpa using this
      refine ⟨?_, ?_⟩
      · unfold Region.ready
        rw [List.filter_eq_nil_iff]
        intro k hk
        have hk' : k < ops.length := by rw [← hsize]; simpa using hk
        have h1 := hall k hk'
        have : listed.getD k true = true := by
          rw [Array.getD_eq_getD_getElem?] at h1 ⊢
          rw [Array.getElem?_eq_getElem (by omega)] at h1 ⊢
          exact h1
        rw [this]; simp
      · have hRS : RS ops vs (fun k => listed.getD k false) ρ ops.length = ρ' := by
          rw [← r3]
          apply List.ext_getElem?
          intro t
          exact (RS_full (S := fun k => listed.getD k false) r1 (fun i o ho => (r5 i o ho).2.2) (t := t) ops.length (Nat.le_refl _) (fun k o hk _ _ => hall k hk)).1
        have hH : Hs j = H' := by
          rw [← r4]
          have := hkeeps (ops.length - j) j (by omega) (fun p o h1 h2 ho hk => by
            have := (himp p o ho hk).1 (hall p (by omega))
            omega)
          rw [show j + (ops.length - j) = ops.length from by omega] at this
          exact this.symm
        rw [hRS] at hregs
        rw [hH] at hRel
        exact hQ a' w' M' hdef hregs hRel hExt
    | succ fuel ih =>
      intro listed a' w' M' j hls hD hcount hdef hj hjj himp hregs hRel hExt
      refine ⟨?_, ?_⟩
      · intro hnil
        exfalso
        -- the first that is not done is ready
        have hex : ∃ k, k < ops.length ∧ listed.getD k false = false := by
          have hne : ((List.range ops.length).filter fun k => !listed.getD k false) ≠ [] := by
            intro e; rw [e] at hcount; simp at hcount
          obtain ⟨k, hk⟩ := List.exists_mem_of_ne_nil _ hne
          rw [List.mem_filter] at hk
          exact ⟨k, by simpa using hk.1, by simpa using hk.2⟩
        obtain ⟨k, ⟨hk1, hk2⟩, hmin⟩ := exists_least hex
        have : k ∈ Region.ready .any opsA listed := by
          rw [mem_ready]
          have hko : ops[k]? = some ops[k] := List.getElem?_eq_getElem hk1
          refine ⟨?_, ops[k], by rw [hopsA]; exact hko, ?_⟩
          · rw [Array.getD_eq_getD_getElem?] at hk2 ⊢
            rw [Array.getElem?_eq_getElem (by omega)] at hk2 ⊢
            exact hk2
          · intro e he hb
            have hlt := F2 k _ hko e he hb
            cases hd : listed.getD e.on false with
            | true => rfl
            | false => exact absurd (hmin e.on ⟨by omega, hd⟩) (by omega)
        rw [hnil] at this
        cases this
      · intro i hi
        rw [mem_ready] at hi
        obtain ⟨hi0, o, hoA, hedges⟩ := hi
        rw [hopsA] at hoA
        have hil : i < ops.length := (List.getElem?_eq_some_iff.1 hoA).1
        have hi0' : listed.getD i false = false := by
          rw [Array.getD_eq_getD_getElem?] at hi0 ⊢
          rw [Array.getElem?_eq_getElem (by omega)] at hi0 ⊢
          exact hi0
        have hready : ∀ o', ops[i]? = some o' → ∀ e ∈ o'.after, Region.binds .any e = true → listed.getD e.on false = true := by
          intro o' ho'
          rw [hoA] at ho'; cases ho'
          exact hedges
        have anc_in : ∀ p, Anc ops p i → listed.getD p false = true := fun p hp => anc_done (S := fun k => listed.getD k false) hD hp (.inr hready)
        have anc_out : ∀ p, Anc ops i p → listed.getD p false = false := by
          intro p hp
          cases hq : listed.getD p false with
          | false => rfl
          | true =>
            have := anc_done (S := fun k => listed.getD k false) hD hp (.inl hq)
            rw [hi0'] at this; cases this
        -- what it looks at holds what it holds in the order of the text
        have hlook : ∀ t ∈ tmpsOf ops o, (RS ops vs (fun k => listed.getD k false) ρ ops.length)[t]? = (R i)[t]? := by
          intro t ht
          have e1 := RS_later (l := ops) (vs := vs) (S := fun k => listed.getD k false) (ρ := ρ) (t := t) (n := i) (ops.length - i) (by
            intro k q hk1 hk2 hs hq hd
            have hki : k ≠ i := by intro e; subst e; rw [hi0'] at hs; cases hs
            have := F3 k i q o hq hoA (by omega) (clash_of_look hd ht).2
            rw [anc_out k this] at hs
            cases hs)
          rw [show i + (ops.length - i) = ops.length from by omega] at e1
          rw [e1]
          exact (RS_full (S := fun k => listed.getD k false) r1 (fun i o ho => (r5 i o ho).2.2) (t := t) i (by omega) (by
            intro k q hk hq hd
            exact anc_in k (F3 i k o q hoA hq hk (clash_of_look hd ht).1))).1
        have hopd : ∀ x ∈ o.op.operands, ev (RS ops vs (fun k => listed.getD k false) ρ ops.length) x = ev (R i) x := by
          intro x hx
          cases x with
          | tmp t =>
            simp only [ev, List.getD_eq_getElem?_getD]
            rw [hlook t (mem_tmps hx)]
          | const v => rfl
          | global g => rfl
          | func f => rfl
        have hgs := (r5 i o hoA).2.1
        unfold gstep at hgs
        obtain ⟨b, hb, hgs1⟩ := obind hgs
        clear hgs
        have hwant : wanted opsA (RS ops vs (fun k => listed.getD k false) ρ ops.length) o = some b := by
          rw [← hb, hopsT]
          unfold wanted
          cases hg : o.guard with
          | none => rfl
          | some p =>
            obtain ⟨jg, want⟩ := p
            dsimp only
            cases hd : (opsA[jg]?).bind (·.dst) with
            | none => rfl
            | some d =>
              dsimp only
              rw [hlook d (mem_guard hg (by rw [← hopsA]; exact hd))]
        have hwsound := wanted_sound hregs hwant
        have hkind2 : opKind o.op = 2 → j ≤ i ∧ Hs j = Hs i ∧ (∀ p o', ops[p]? = some o' → opKind o'.op = 2 → ((listed.getD p false = true ∨ p = i) ↔ p < i + 1)) := by
          intro hk2
          have hji : j ≤ i := by
            rcases Nat.lt_or_ge i j with q | q
            · have := (himp i o hoA hk2).2 q
              rw [hi0'] at this; cases this
            · exact q
          have hbefore : ∀ p o', ops[p]? = some o' → opKind o'.op = 2 → p < i → p < j := by
            intro p o' hp hpk hpi
            exact (himp p o' hp hpk).1 (anc_in p (F4 i p o o' hoA hp hpi hk2 hpk))
          refine ⟨hji, ?_, ?_⟩
          · have := hkeeps (i - j) j (by omega) (fun p o' h1 h2 hp hpk => by
              have := hbefore p o' hp hpk (by omega)
              omega)
            rw [show j + (i - j) = i from by omega] at this
            exact this.symm
          · intro p o' hp hpk
            constructor
            · rintro (h | rfl)
              · have := (himp p o' hp hpk).1 h; omega
              · omega
            · intro h
              by_cases hpi : p = i
              · exact .inr hpi
              · exact .inl ((himp p o' hp hpk).2 (hbefore p o' hp hpk (by omega)))
        have hkind01 : opKind o.op ≠ 2 → (∀ p o', ops[p]? = some o' → opKind o'.op = 2 → ((listed.getD p false = true ∨ p = i) ↔ p < j)) := by
          intro hk2 p o' hp hpk
          have hpi : p ≠ i := by
            intro e; subst e
            rw [hoA] at hp; cases hp
            exact hk2 hpk
          rw [← himp p o' hp hpk]
          simp [hpi]
        -- what it does on the heap as it stands
        have hstep : ∃ j', j' ≤ ops.length ∧ (j' = 0 ∨ ∃ q, ops[j' - 1]? = some q ∧ opKind q.op = 2) ∧
            (if b = true then astep P call (RS ops vs (fun k => listed.getD k false) ρ ops.length) (Hs j) o.op = some (vs i, Hs j') else (vs i = undefV ∧ Hs j' = Hs j)) ∧
            (∀ p o', ops[p]? = some o' → opKind o'.op = 2 → ((listed.getD p false = true ∨ p = i) ↔ p < j')) := by
          cases b with
          | false =>
            simp only [Bool.false_eq_true, if_false] at hgs1 ⊢
            have h4 := Option.some.inj hgs1
            have e1 : undefV = vs i := (Prod.mk.inj (Prod.mk.inj h4).2).1
            have e2 : Hs i = Hs (i + 1) := (Prod.mk.inj (Prod.mk.inj h4).2).2
            by_cases hk2 : opKind o.op = 2
            · obtain ⟨hji, hHs, himp'⟩ := hkind2 hk2
              exact ⟨i + 1, by omega, .inr ⟨o, by simpa using hoA, hk2⟩, ⟨e1.symm, by rw [← e2, hHs]⟩, himp'⟩
            · exact ⟨j, hj, hjj, ⟨e1.symm, rfl⟩, hkind01 hk2⟩
          | true =>
            simp only [if_true] at hgs1 ⊢
            obtain ⟨⟨v', H2⟩, hrun0, hgs2⟩ := obind hgs1
            dsimp only at hgs2
            have h4 := Option.some.inj hgs2
            have e0 : true = bs i := (Prod.mk.inj h4).1
            have e1 : v' = vs i := (Prod.mk.inj (Prod.mk.inj h4).2).1
            have e2 : H2 = Hs (i + 1) := (Prod.mk.inj (Prod.mk.inj h4).2).2
            rw [e1, e2] at hrun0
            rw [astep_congr (Hs j) o.op hopd]
            by_cases hk2 : opKind o.op = 2
            · obtain ⟨hji, hHs, himp'⟩ := hkind2 hk2
              exact ⟨i + 1, by omega, .inr ⟨o, by simpa using hoA, hk2⟩, by rw [hHs]; exact hrun0, himp'⟩
            · have hnc := kind_isCall hk2
              have hrun' : aop P (R i) (Hs i) o.op = some (vs i, Hs (i + 1)) := by
                unfold astep at hrun0; rw [hnc] at hrun0; exact hrun0
              refine ⟨j, hj, hjj, ?_, hkind01 hk2⟩
              unfold astep
              rw [hnc]
              dsimp only
              have hk01 : opKind o.op = 0 ∨ opKind o.op = 1 := by
                have := opKind_le o.op
                omega
              rcases hk01 with hk0 | hk1
              · exact kind0_heap hk0 hrun' (Hs j)
              · refine hstab i o j hoA hk1 e0.symm hj hjj ?_
                unfold mayAt
                rw [List.all_eq_true]
                rintro ⟨q, p⟩ hqp
                rw [List.mem_zipIdx_iff_getElem?] at hqp
                dsimp only at hqp ⊢
                by_cases hqk : opKind q.op = 2
                · simp only [hqk, beq_self_eq_true, Bool.not_true, Bool.false_or, Bool.and_eq_true, Bool.or_eq_true, Bool.not_eq_true', decide_eq_true_eq]
                  constructor
                  · cases hb : ((masks ops []).getD i 0).testBit p with
                    | false => exact .inl rfl
                    | true => exact .inr ((himp p q hqp hqk).1 (anc_in p (masks_anc ops i p hb)))
                  · cases hb : ((masks ops []).getD p 0).testBit i with
                    | false => exact .inl rfl
                    | true =>
                      refine .inr ?_
                      have := anc_out p (masks_anc ops p i hb)
                      rcases Nat.lt_or_ge p j with q' | q'
                      · rw [(himp p q hqp hqk).2 q'] at this; cases this
                      · exact q'
                · simp [hqk]
        obtain ⟨j', hj', hjj', hrun, himp'⟩ := hstep
        have hset : ∀ k, (listed.setIfInBounds i true).getD k false = (decide (k = i) || listed.getD k false) := by
          intro k
          by_cases hki : k = i
          · subst hki
            simp [show k < listed.size by omega]
          · rw [getD_set_ne false (fun e => hki e.symm)]
            simp [hki]
        have hfun : (fun k => (listed.setIfInBounds i true).getD k false) = (fun k => decide (k = i) || listed.getD k false) := funext hset
        have hgo : ∀ u w'' M'', VR M'' (vs i) u → Rel w0 M'' (Hs j') w'' → Ext M' M'' → wpAny P .any opsA Q fuel (listed.setIfInBounds i true) (a'.put o.dst u) w'' := by
          intro u w'' M'' q1 q2 q3
          refine ih (listed.setIfInBounds i true) _ w'' M'' j' (by simpa using hls) ?_ ?_ ((put_defers _ _ _).trans hdef) hj' hjj' ?_ ?_ q2 (hExt.trans q3)
          · rw [hfun]
            intro k o' hk ho' e he hbe
            simp only [Bool.or_eq_true, decide_eq_true_eq] at hk ⊢
            rcases hk with rfl | hk
            · exact .inr (hready o' ho' e he hbe)
            · exact .inr (hD k o' hk ho' e he hbe)
          · -- one less is left
            have hsplit : ∀ (l : List Nat), l.Nodup → i ∈ l → (l.filter fun k => !listed.getD k false).length = (l.filter fun k => !(decide (k = i) || listed.getD k false)).length + 1 := by
              intro l
              induction l with
              | nil => intro _ h; cases h
              | cons x l ihl =>
                intro hn hmem
                rw [List.nodup_cons] at hn
                by_cases hx : x = i
                · subst hx
                  have : (l.filter fun k => !listed.getD k false) = (l.filter fun k => !(decide (k = x) || listed.getD k false)) := by
                    apply List.filter_congr
                    intro k hk
                    have : k ≠ x := fun e => hn.1 (e ▸ hk)
                    simp [this]
                  rw [List.filter_cons, List.filter_cons]
                  simp only [hi0', Bool.not_false, if_true, decide_true, Bool.true_or, Bool.not_true, Bool.false_eq_true, if_false, List.length_cons, this]
                · have hmem' : i ∈ l := by
                    rcases List.mem_cons.1 hmem with e | e
                    · exact absurd e.symm hx
                    · exact e
                  have hih := ihl hn.2 hmem'
                  rw [List.filter_cons, List.filter_cons]
                  simp only [hx, decide_false, Bool.false_or]
                  split
                  · simp only [List.length_cons, hih]
                  · exact hih
            have := hsplit (List.range ops.length) List.nodup_range (by simpa using hil)
            rw [hcount] at this
            have h2 : ((List.range ops.length).filter fun k => !(listed.setIfInBounds i true).getD k false) = ((List.range ops.length).filter fun k => !(decide (k = i) || listed.getD k false)) := by
              apply List.filter_congr
              intro k _
              rw [hset k]
            rw [h2]; omega
          · intro p o' hp hpk
            rw [hset p]
            simp only [Bool.or_eq_true, decide_eq_true_eq]
            rw [← himp' p o' hp hpk]
            constructor
            · rintro (h | h)
              · exact .inr h
              · exact .inl h
            · rintro (h | h)
              · exact .inr h
              · exact .inl h
          · rw [hfun]
            obtain ⟨_, hadd⟩ := RS_add (l := ops) (vs := vs) (S := fun k => listed.getD k false) (ρ := ρ) hoA hi0' (by
              intro k q hk hq hs t hot hqt
              have := F3 k i q o hq hoA hk (clash_of_write hot hqt)
              have := anc_out k this
              rw [this] at hs; cases hs)
            have := hadd (ops.length - (i + 1))
            rw [show i + 1 + (ops.length - (i + 1)) = ops.length from by omega] at this
            rw [this]
            exact put_rel (VRs.ext q3 _ _ hregs) o.dst q1
        unfold wpOp
        rw [hopsA, hoA]
        dsimp only
        cases b with
        | true =>
          simp only [if_true] at hrun
          rw [if_pos hwsound]
          exact .inl (step_sound hC hRel (ev_rel hRel hregs) o hrun _ _ hgo)
        | false =>
          simp only [Bool.false_eq_true, if_false] at hrun
          rw [if_neg (by rw [hwsound]; simp)]
          obtain ⟨h1, h2⟩ := hrun
          exact hgo undef w' M' (by rw [h1]; exact VR_s _) (by rw [h2]; exact hRel) (Ext.refl _)
  refine wp_region_any hm ?_
  have := key opsA.size (Array.replicate opsA.size false) a { w with drawn := w.drawn + 1 } M 0 (by simp [hsize]) ?_ ?_ rfl (Nat.zero_le _) (.inl rfl) ?_ ?_ (by rw [r2]; exact hR.drew) (Ext.refl _)
  · exact this
  · intro j o hj
    have hj : (Array.replicate opsA.size false).getD j false = true := hj
    rw [repl_getD] at hj; cases hj
  · rw [hsize]
    have : ((List.range ops.length).filter fun k => !(Array.replicate ops.length false).getD k false) = List.range ops.length := by
      rw [List.filter_eq_self]
      intro k hk
      rw [repl_getD]; rfl
    rw [this]; simp
  · intro p o hp hk
    rw [repl_getD]; simp
  · have : RS ops vs (fun k => (Array.replicate opsA.size false).getD k false) ρ ops.length = ρ := by
      have : ∀ n, RS ops vs (fun k => (Array.replicate opsA.size false).getD k false) ρ n = ρ := by
        intro n
        induction n with
        | zero => rfl
        | succ n ih =>
          simp only [RS]
          split
          · have hf : ((fun k => (Array.replicate opsA.size false).getD k false) n) = false := repl_getD _ _
            rw [if_neg (by intro e; exact Bool.noConfusion (hf.symm.trans e))]; exact ih
          · exact ih
      exact this _
    rw [this]; exact hv

/-- A call of the abstract machine stands for a call of the model. -/
theorem calls_of (C : Ctx) (hm : C.P.follows .mixedOrders = true) (hS : SameOk C) (k : Nat) : CallOk C.P (acall C k) := call_sound C (draw_ok hm) hS k

end Go.Am
