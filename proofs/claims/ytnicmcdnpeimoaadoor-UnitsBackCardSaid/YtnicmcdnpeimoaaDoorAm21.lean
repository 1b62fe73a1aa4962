/-
  What a call without arguments hands back, found out on a heap of its own.
-/
import Derived.Test.YtnicmcdnpeimoaaDoorAm20
set_option linter.unusedVariables false
set_option linter.unusedSimpArgs false
namespace Go.Am
open Go.RowKit

/-- A call without arguments hands back this value, and leaves what was there. -/
def OrcFact (P : Program) (f : FuncId) (H : Hp) (v : V) : Prop := ∀ (w0 w : World) (M : Mp), Rel w0 M H w →
  (∃ fn c, P.funcs[f]? = some fn ∧ fn.body = some c ∧ (fn.name == "runtime.NumGoroutine") = false) ∧
  Calls P f #[] w fun e w' => ∃ u M', e = .returned u ∧ VR M' v u ∧ Rel w0 M' H w' ∧ Ext M M'

open Classical in
noncomputable def orcTrue (P : Program) (f : FuncId) (H : Hp) : Option V := if OrcFact P f H (B true) then some (B true) else none
theorem orcTrue_ok {P : Program} {f : FuncId} {H : Hp} (h : OrcFact P f H (B true)) : orcTrue P f H = some (B true) := by
  unfold orcTrue; rw [if_pos h]
theorem orcTrue_fact {P : Program} {f : FuncId} {H : Hp} {v : V} (h : orcTrue P f H = some v) : OrcFact P f H v := by
  unfold orcTrue at h
  split at h
  · cases h; assumption
  · cases h

theorem Rel.of_below {w0 w w' : World} {M : Mp} {H : Hp} (h : Rel w0 M H w) (hb : Below w.heap.size w w') : Rel w0 M H w' := by
  have hlt : ∀ {n b L}, H.get n = some b → M n = some L → L.b < w.heap.size := by
    intro n b L hn hL
    obtain ⟨L2, c2, e2, fz2, q1, q2, q3, _⟩ := h.blk n b hn
    rw [hL] at q1; cases q1
    rcases Nat.lt_or_ge L.b w.heap.size with hh | hh
    · exact hh
    · rw [Array.getElem?_eq_none hh] at q3; cases q3
  refine ⟨h.below.trans (hb.mono h.below.size), ?_, h.inj, ?_, h.fresh, h.glob⟩
  · intro n b hn
    obtain ⟨L, c, e, fz, q1, q2, q3, q4⟩ := h.blk n b hn
    exact ⟨L, c, e, fz, q1, q2, by rw [hb.block _ (hlt hn q1)]; exact q3, q4⟩
  · intro n b L c e fz hn hL hw
    rw [hb.block _ (hlt hn hL)] at hw
    exact h.kind n b L c e fz hn hL hw

/-- A heap that holds some of the program's variables, read only. -/
structure Vars (H0 H : Hp) : Prop where
  next : H0.next = NG
  sub : ∀ n b, H0.get n = some b → n < NG ∧ b.rw = false ∧ H.get n = some b
  plain : ∀ n b, H0.get n = some b → ∀ v ∈ b.cells, ∃ x, v = .s x
theorem Rel.vars {w0 w : World} {M : Mp} {H H0 : Hp} (h : Rel w0 M H w) (hv : Vars H0 H) : Rel w (fun n => if n < NG then M n else none) H0 w := by
  refine ⟨Below.refl _ _, ?_, ?_, ?_, ?_, ?_⟩
  · intro n b hn
    obtain ⟨a1, a2, a3⟩ := hv.sub n b hn
    obtain ⟨L, c, e, fz, q1, q2, q3, q4, q5, q6, q7⟩ := h.blk n b a3
    refine ⟨L, c, e, fz, by simp only [if_pos a1]; exact q1, q2, q3, q4, q5, ?_, fun hr => by rw [a2] at hr; cases hr⟩
    intro i v hi
    obtain ⟨u, r1, r2⟩ := q6 i v hi
    obtain ⟨x, rfl⟩ := hv.plain n b hn v (List.mem_of_getElem? hi)
    exact ⟨u, r1, by simpa [VR] using r2⟩
  · intro n m b b' L L' h1 h2 h3
    rw [(hv.sub n b h1).2.1] at h3; cases h3
  · intro n b L c e fz hn hL hw
    obtain ⟨a1, a2, a3⟩ := hv.sub n b hn
    simp only [if_pos a1] at hL
    exact h.kind n b L c e fz a3 hL hw
  · intro n hn
    rw [hv.next] at hn
    refine ⟨?_, by simp only [if_neg (by omega : ¬ n < NG)]⟩
    cases hg : H0.get n with
    | none => rfl
    | some b => have := (hv.sub n b hg).1; omega
  · intro g hg
    obtain ⟨L, q1, q2⟩ := h.glob g hg
    exact ⟨L, by simp only [if_pos hg]; exact q1, q2⟩

/-- What a run on the variables alone tells of a call on any heap that holds them so. -/
theorem orc_of {C0 : Ctx} (hC : CallOk C0.P (callL C0)) {f : FuncId} {H0 H0' : Hp} {v : Value} (hr : callL C0 f [] H0 = some (.s v, H0')) {fn : Func} {c : Code} (hf : C0.P.funcs[f]? = some fn) (hb : fn.body = some c) (hn : (fn.name == "runtime.NumGoroutine") = false)
    {H : Hp} (hv : Vars H0 H) : OrcFact C0.P f H (.s v) := by
  intro w0 w M hR
  refine ⟨⟨fn, c, hf, hb, hn⟩, ?_⟩
  have hR0 := hR.vars hv
  rcases hC f [] H0 _ _ hr w w _ [] hR0 (by simp [VRs]) with ⟨_, h⟩ | ⟨u, h, _⟩
  · refine Calls.mono h ?_
    rintro e w' ⟨u, M', h1, h2, h3, h4⟩
    exact ⟨u, M, h1, by simpa [VR] using h2, hR.of_below h3.below, Ext.refl _⟩
  · exfalso
    rw [callFunc_run hf hb hn] at h
    cases h
end Go.Am
