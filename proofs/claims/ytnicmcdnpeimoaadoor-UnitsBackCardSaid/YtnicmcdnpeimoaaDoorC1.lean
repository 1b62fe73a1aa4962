/-
  The examples of the chapter: run by the kernel on the abstract machine.
-/
import Derived.Test.YtnicmcdnpeimoaaDoorB1
set_option linter.unusedVariables false
set_option linter.unusedSimpArgs false
set_option maxRecDepth 1000000
namespace Go.Proofs.YtnicmcdnpeimoaaDoor
open Go.Am

def flagCells : List V := [0, 1, 1, 1, 1, 1, 1, 0].map fun n : Int => V.s (.int .u8 n)
def powCells : List V := (List.range 20).map fun i => V.s (.int .u64 ((10 ^ i : Nat) : Int))
/-- The variables of the program that the code reads. -/
def hv (e0 e1 : TypeId) : Hp := { t := (Tr.set (Tr.set .nil 0 (some ⟨flagCells, 0, false, e0, false⟩)) 1 (some ⟨powCells, 0, false, e1, false⟩)), next := NG }
def isTrue (x : Option (V × Hp)) : Bool := match x with | some (.s (.bool true), _) => true | _ => false
theorem isTrue_of {x : Option (V × Hp)} (h : isTrue x = true) : ∃ H', x = some (B true, H') := by
  unfold isTrue at h
  split at h
  · exact ⟨_, rfl⟩
  · cases h
theorem lives_true (e0 e1 : TypeId) : isTrue (acall ctx0 400 15 [] (hv e0 e1)) = true := by kernel_rfl
end Go.Proofs.YtnicmcdnpeimoaaDoor
