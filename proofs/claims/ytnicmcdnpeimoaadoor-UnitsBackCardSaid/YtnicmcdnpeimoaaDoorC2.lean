/-
  The row: for every input UnitsBack returns true, and the input reads as it did.
-/
import Derived.Test.YtnicmcdnpeimoaaDoorB21
import Derived.Test.YtnicmcdnpeimoaaDoorC1
import Derived.Test.YtnicmcdnpeimoaaDoorAm22
import Derived.Test.YtnicmcdnpeimoaaDoorRows
import Derived.ProofKit
import Derived.LaidMore
import Derived.OpenShut
import Derived.Carry
import Derived.ReadAgain
import Derived.ChangeSlices
import Derived.Stop.Joined
set_option linter.unusedVariables false
set_option linter.unusedSimpArgs false
set_option maxRecDepth 1000000
set_option maxHeartbeats 4000000
namespace Go.Proofs.YtnicmcdnpeimoaaDoor
open Go.Am Go.ChangeShapes Go.WideShapes Go.ChangeAt Go.RowKit

theorem own : ownKnob Tryd.prog.godebug = none := by kernel_rfl
theorem gF : Tryd.prog.globalNamed "pointcode/frames.flag" = some 0 := by kernel_rfl
theorem gP : Tryd.prog.globalNamed "internal/strconv.uint64pow10" = some 1 := by kernel_rfl
theorem tF : (Tryd.prog.globals[0]?).map (·.type) = some 72 := by kernel_rfl
theorem tP : (Tryd.prog.globals[1]?).map (·.type) = some 104 := by kernel_rfl
theorem cells5 : Tryd.prog.cellsOf 5 = 1 := by kernel_rfl
theorem cells22 : Tryd.prog.cellsOf 22 = 1 := by kernel_rfl
theorem cells23 : Tryd.prog.cellsOf 23 = 1 := by kernel_rfl
theorem cells25 : Tryd.prog.cellsOf 25 = 6 := by kernel_rfl
theorem cells72 : Tryd.prog.cellsOf 72 = 8 := by kernel_rfl
theorem cells81 : Tryd.prog.cellsOf 81 = 1 := by kernel_rfl
theorem cells104 : Tryd.prog.cellsOf 104 = 20 := by kernel_rfl

/-- An array of integers, opened. -/
theorem arr_ints {P : Program} {w : World} {base : Nat} {spare : Nat → Bool} {held : Bool} {fuel : Nat} {t e N : Nat} {k : IntKind} {cs : List Value} {ns : List Int} {p : List MemPlace} {enc : TypeId × Value → Unit}
    (ht : P.underlying t = some (.array N e)) (he : P.underlying e = some (.int k)) (hc : P.cellsOf e = 1) (hct : P.cellsOf t = N)
    (h : DataW.trod enc P w base spare held fuel t cs = some (.agg (ns.map fun n => .lit (.int k n)), p)) : cs = ns.map (Value.int k) := by
  obtain ⟨xs, m1, rfl, hx, hlen, hn, hel⟩ := DataW.trod_array ht h
  simp only [Prod.mk.injEq, DataW.agg.injEq] at hx
  rw [hct] at hlen
  have hl2 : ns.length = xs.length := by
    have := congrArg List.length hx.1
    simpa using this
  apply List.ext_getElem?
  intro i
  by_cases hi : i < N
  · have h1 := hel i hi
    rw [hc, Nat.mul_one] at h1
    have hxi : xs[i]? = some xs[i] := List.getElem?_eq_getElem (by omega)
    rw [hxi] at h1
    obtain ⟨n, e1, e2, _⟩ := DataW.trod_int he h1
    have e3 : cs[i]? = some (.int k n) := by
      have : ((cs.drop i).take 1)[0]? = some (.int k n) := by rw [e1]; rfl
      rw [List.getElem?_take, List.getElem?_drop] at this
      simpa using this
    have e4 : (ns.map fun n => (DataW.lit (.int k n) : DataW Unit))[i]? = some (.lit (.int k n)) := by
      rw [hx.1, List.getElem?_map, hxi, e2]; rfl
    rw [e3]
    rw [List.getElem?_map] at e4 ⊢
    cases hq : ns[i]? with
    | none => rw [hq] at e4; cases e4
    | some q =>
      rw [hq] at e4
      simp only [Option.map_some, Option.some.injEq, DataW.lit.injEq, Lit.int.injEq, true_and] at e4
      simp [e4]
  · rw [List.getElem?_eq_none (by omega), List.getElem?_eq_none (by simp; omega)]

theorem var_heap {P : Program} {w : World} {n : String} {g : Nat} {cs : Array Value} (hg : P.globalNamed n = some g) (h : w.var? P n = some cs) : ∃ e fz, w.heap[g]? = some (.cells cs e fz) := by
  simp only [World.var?, hg, Option.bind_some] at h
  split at h
  · rename_i c e fz hw
    cases h
    exact ⟨e, fz, hw⟩
  · cases h

def flagNs : List Int := [0, 1, 1, 1, 1, 1, 1, 0]
def powNs : List Int := (List.range 20).map fun i => ((10 ^ i : Nat) : Int)
theorem of_laid {W : World} (h : laidMetH Tryd.prog Rows.unitsBackRow.laid W) : ∃ c0 e0 f0 c1 e1 f1, W.heap[0]? = some (.cells c0 e0 f0) ∧ c0.toList = flagNs.map (Value.int .u8) ∧ W.heap[1]? = some (.cells c1 e1 f1) ∧ c1.toList = powNs.map (Value.int .u64) := by
  rw [MakeChecks.laidMetH_plain _ _ _ (by kernel_rfl)] at h
  obtain ⟨ps, ⟨_, _, _, _, _, _, _, _, _, _, ⟨_, _, _, _, _, _, _, _, _, _, ⟨g1, t1, cs1, f1, p1, q1, hg1, ht1, hv1, hd1, ⟨g0, t0, cs0, f0, p0, q0, hg0, ht0, hv0, hd0, _, _⟩, _⟩, _⟩, _⟩, _, _⟩ := h
  obtain rfl := Option.some.inj (gF.symm.trans hg0)
  obtain rfl := Option.some.inj (gP.symm.trans hg1)
  obtain rfl := Option.some.inj (tF.symm.trans ht0)
  obtain rfl := Option.some.inj (tP.symm.trans ht1)
  obtain ⟨e0, z0, w0⟩ := var_heap gF hv0
  obtain ⟨e1, z1, w1⟩ := var_heap gP hv1
  exact ⟨cs0, e0, z0, cs1, e1, z1, w0, arr_ints (ns := flagNs) Tryd.underlying72 Tryd.underlying5 cells5 cells72 hd0, w1, arr_ints (ns := powNs) Tryd.underlying104 Tryd.underlying81 cells81 cells104 hd1⟩
end Go.Proofs.YtnicmcdnpeimoaaDoor
