/-
  For each function the rule that enters it (printed by a program of ours).
-/
import Derived.Test.YtnicmcdnpeimoaaDoorTy
set_option linter.unusedVariables false
set_option linter.unusedSimpArgs false
set_option maxRecDepth 100000
namespace Go.Proofs.YtnicmcdnpeimoaaDoor
open Go.Am
noncomputable def fbody (f : FuncId) : Code := match Tryd.prog.funcs[f]? with | some fn => fn.body.getD .skip | none => .skip
noncomputable def fres (f : FuncId) : List ResultVar := match Tryd.prog.funcs[f]? with | some fn => fn.results.toList | none => []
def nth : Code → List Bool → Code
  | c, [] => c
  | .seq a b, x :: r => nth (cond x b a) r
  | .cond _ a b, x :: r => nth (cond x b a) r
  | .block _ a, _ :: r => nth a r
  | .loop a, _ :: r => nth a r
  | c, _ => c
/-- What begins as what it was given. -/
theorem enter {f : FuncId} {fn : Func} (hf : Tryd.prog.funcs[f]? = some fn) (hs : ctx.same f = false) (hb : fn.body.isSome = true) (hn : (fn.name == "runtime.NumGoroutine") = false) (n : Nat) (args : List V) (H : Hp) (ht : fn.ntmps - args.length = n) :
    callL ctx f args H = fo (args ++ List.replicate n undefV) fun ρ => go ctx f (fn.body.getD .skip) ρ H (fin Tryd.prog fn.results.toList) := by
  cases h : fn.body with
  | none => rw [h] at hb; cases hb
  | some c => exact call_go ctx f fn c n _ args H hs hf h hn ht rfl
theorem fb2 : fbody 2 = Tryd.f2.body.getD .skip := by unfold fbody; rw [Tryd.func2]
theorem cg2 (H : Hp) : callL ctx 2 [] H = (fo ([] ++ List.replicate 1 undefV) fun ρ => go ctx 2 (Tryd.f2.body.getD .skip) ρ H (fin Tryd.prog Tryd.f2.results.toList)) := enter Tryd.func2 same2 rfl (by kernel_rfl) 1 [] H rfl
theorem fb3 : fbody 3 = Tryd.f3.body.getD .skip := by unfold fbody; rw [Tryd.func3]
theorem cg3 (a0 : V) (H : Hp) : callL ctx 3 [a0] H = (fo ([a0] ++ List.replicate 126 undefV) fun ρ => go ctx 3 (Tryd.f3.body.getD .skip) ρ H (fin Tryd.prog Tryd.f3.results.toList)) := enter Tryd.func3 same3 rfl (by kernel_rfl) 126 [a0] H rfl
theorem fb4 : fbody 4 = Tryd.f4.body.getD .skip := by unfold fbody; rw [Tryd.func4]
theorem cg4 (a0 : V) (H : Hp) : callL ctx 4 [a0] H = (fo ([a0] ++ List.replicate 36 undefV) fun ρ => go ctx 4 (Tryd.f4.body.getD .skip) ρ H (fin Tryd.prog Tryd.f4.results.toList)) := enter Tryd.func4 same4 rfl (by kernel_rfl) 36 [a0] H rfl
theorem fb5 : fbody 5 = Tryd.f5.body.getD .skip := by unfold fbody; rw [Tryd.func5]
theorem cg5 (a0 : V) (H : Hp) : callL ctx 5 [a0] H = (fo ([a0] ++ List.replicate 36 undefV) fun ρ => go ctx 5 (Tryd.f5.body.getD .skip) ρ H (fin Tryd.prog Tryd.f5.results.toList)) := enter Tryd.func5 same5 rfl (by kernel_rfl) 36 [a0] H rfl
theorem fb6 : fbody 6 = Tryd.f6.body.getD .skip := by unfold fbody; rw [Tryd.func6]
theorem cg6 (a0 : V) (H : Hp) : callL ctx 6 [a0] H = (fo ([a0] ++ List.replicate 66 undefV) fun ρ => go ctx 6 (Tryd.f6.body.getD .skip) ρ H (fin Tryd.prog Tryd.f6.results.toList)) := enter Tryd.func6 same6 rfl (by kernel_rfl) 66 [a0] H rfl
theorem fb7 : fbody 7 = Tryd.f7.body.getD .skip := by unfold fbody; rw [Tryd.func7]
theorem cg7 (a0 : V) (H : Hp) : callL ctx 7 [a0] H = (fo ([a0] ++ List.replicate 8 undefV) fun ρ => go ctx 7 (Tryd.f7.body.getD .skip) ρ H (fin Tryd.prog Tryd.f7.results.toList)) := enter Tryd.func7 same7 rfl (by kernel_rfl) 8 [a0] H rfl
theorem fb8 : fbody 8 = Tryd.f8.body.getD .skip := by unfold fbody; rw [Tryd.func8]
theorem cg8 (a0 : V) (H : Hp) : callL ctx 8 [a0] H = (fo ([a0] ++ List.replicate 15 undefV) fun ρ => go ctx 8 (Tryd.f8.body.getD .skip) ρ H (fin Tryd.prog Tryd.f8.results.toList)) := enter Tryd.func8 same8 rfl (by kernel_rfl) 15 [a0] H rfl
theorem fb9 : fbody 9 = Tryd.f9.body.getD .skip := by unfold fbody; rw [Tryd.func9]
theorem cg9 (H : Hp) : callL ctx 9 [] H = (fo ([] ++ List.replicate 3 undefV) fun ρ => go ctx 9 (Tryd.f9.body.getD .skip) ρ H (fin Tryd.prog Tryd.f9.results.toList)) := enter Tryd.func9 same9 rfl (by kernel_rfl) 3 [] H rfl
theorem fb10 : fbody 10 = Tryd.f10.body.getD .skip := by unfold fbody; rw [Tryd.func10]
theorem cg10 (a0 a1 : V) (H : Hp) : callL ctx 10 [a0, a1] H = (fo ([a0, a1] ++ List.replicate 33 undefV) fun ρ => go ctx 10 (Tryd.f10.body.getD .skip) ρ H (fin Tryd.prog Tryd.f10.results.toList)) := enter Tryd.func10 same10 rfl (by kernel_rfl) 33 [a0, a1] H rfl
theorem fb11 : fbody 11 = Tryd.f11.body.getD .skip := by unfold fbody; rw [Tryd.func11]
theorem cg11 (a0 a1 : V) (H : Hp) : callL ctx 11 [a0, a1] H = (fo ([a0, a1] ++ List.replicate 50 undefV) fun ρ => go ctx 11 (Tryd.f11.body.getD .skip) ρ H (fin Tryd.prog Tryd.f11.results.toList)) := enter Tryd.func11 same11 rfl (by kernel_rfl) 50 [a0, a1] H rfl
theorem fb12 : fbody 12 = Tryd.f12.body.getD .skip := by unfold fbody; rw [Tryd.func12]
theorem cg12 (a0 : V) (H : Hp) : callL ctx 12 [a0] H = (fo ([a0] ++ List.replicate 37 undefV) fun ρ => go ctx 12 (Tryd.f12.body.getD .skip) ρ H (fin Tryd.prog Tryd.f12.results.toList)) := enter Tryd.func12 same12 rfl (by kernel_rfl) 37 [a0] H rfl
theorem fb13 : fbody 13 = Tryd.f13.body.getD .skip := by unfold fbody; rw [Tryd.func13]
theorem cg13 (a0 a1 : V) (H : Hp) : callL ctx 13 [a0, a1] H = (fo ([a0, a1] ++ List.replicate 14 undefV) fun ρ => go ctx 13 (Tryd.f13.body.getD .skip) ρ H (fin Tryd.prog Tryd.f13.results.toList)) := enter Tryd.func13 same13 rfl (by kernel_rfl) 14 [a0, a1] H rfl
theorem fb14 : fbody 14 = Tryd.f14.body.getD .skip := by unfold fbody; rw [Tryd.func14]
theorem cg14 (a0 : V) (H : Hp) : callL ctx 14 [a0] H = (fo ([a0] ++ List.replicate 44 undefV) fun ρ => go ctx 14 (Tryd.f14.body.getD .skip) ρ H (fin Tryd.prog Tryd.f14.results.toList)) := enter Tryd.func14 same14 rfl (by kernel_rfl) 44 [a0] H rfl
theorem fb16 : fbody 16 = Tryd.f16.body.getD .skip := by unfold fbody; rw [Tryd.func16]
theorem cg16 (a0 a1 : V) (H : Hp) : callL ctx 16 [a0, a1] H = (fo ([a0, a1] ++ List.replicate 32 undefV) fun ρ => go ctx 16 (Tryd.f16.body.getD .skip) ρ H (fin Tryd.prog Tryd.f16.results.toList)) := enter Tryd.func16 same16 rfl (by kernel_rfl) 32 [a0, a1] H rfl
theorem fb17 : fbody 17 = Tryd.f17.body.getD .skip := by unfold fbody; rw [Tryd.func17]
theorem cg17 (a0 : V) (H : Hp) : callL ctx 17 [a0] H = (fo ([a0] ++ List.replicate 58 undefV) fun ρ => go ctx 17 (Tryd.f17.body.getD .skip) ρ H (fin Tryd.prog Tryd.f17.results.toList)) := enter Tryd.func17 same17 rfl (by kernel_rfl) 58 [a0] H rfl
theorem fb18 : fbody 18 = Tryd.f18.body.getD .skip := by unfold fbody; rw [Tryd.func18]
theorem cg18 (a0 a1 : V) (H : Hp) : callL ctx 18 [a0, a1] H = (fo ([a0, a1] ++ List.replicate 7 undefV) fun ρ => go ctx 18 (Tryd.f18.body.getD .skip) ρ H (fin Tryd.prog Tryd.f18.results.toList)) := enter Tryd.func18 same18 rfl (by kernel_rfl) 7 [a0, a1] H rfl
theorem fb19 : fbody 19 = Tryd.f19.body.getD .skip := by unfold fbody; rw [Tryd.func19]
theorem cg19 (a0 : V) (H : Hp) : callL ctx 19 [a0] H = (fo ([a0] ++ List.replicate 10 undefV) fun ρ => go ctx 19 (Tryd.f19.body.getD .skip) ρ H (fin Tryd.prog Tryd.f19.results.toList)) := enter Tryd.func19 same19 rfl (by kernel_rfl) 10 [a0] H rfl
theorem fb20 : fbody 20 = Tryd.f20.body.getD .skip := by unfold fbody; rw [Tryd.func20]
theorem cg20 (a0 a1 : V) (H : Hp) : callL ctx 20 [a0, a1] H = (fo ([a0, a1] ++ List.replicate 8 undefV) fun ρ => go ctx 20 (Tryd.f20.body.getD .skip) ρ H (fin Tryd.prog Tryd.f20.results.toList)) := enter Tryd.func20 same20 rfl (by kernel_rfl) 8 [a0, a1] H rfl
theorem fb21 : fbody 21 = Tryd.f21.body.getD .skip := by unfold fbody; rw [Tryd.func21]
theorem cg21 (a0 : V) (H : Hp) : callL ctx 21 [a0] H = (fo ([a0] ++ List.replicate 8 undefV) fun ρ => go ctx 21 (Tryd.f21.body.getD .skip) ρ H (fin Tryd.prog Tryd.f21.results.toList)) := enter Tryd.func21 same21 rfl (by kernel_rfl) 8 [a0] H rfl
theorem fb22 : fbody 22 = Tryd.f22.body.getD .skip := by unfold fbody; rw [Tryd.func22]
theorem cg22 (a0 : V) (H : Hp) : callL ctx 22 [a0] H = (fo ([a0] ++ List.replicate 35 undefV) fun ρ => go ctx 22 (Tryd.f22.body.getD .skip) ρ H (fin Tryd.prog Tryd.f22.results.toList)) := enter Tryd.func22 same22 rfl (by kernel_rfl) 35 [a0] H rfl
theorem fb23 : fbody 23 = Tryd.f23.body.getD .skip := by unfold fbody; rw [Tryd.func23]
theorem cg23 (a0 : V) (H : Hp) : callL ctx 23 [a0] H = (fo ([a0] ++ List.replicate 7 undefV) fun ρ => go ctx 23 (Tryd.f23.body.getD .skip) ρ H (fin Tryd.prog Tryd.f23.results.toList)) := enter Tryd.func23 same23 rfl (by kernel_rfl) 7 [a0] H rfl
theorem fb24 : fbody 24 = Tryd.f24.body.getD .skip := by unfold fbody; rw [Tryd.func24]
theorem cg24 (a0 : V) (H : Hp) : callL ctx 24 [a0] H = (fo ([a0] ++ List.replicate 7 undefV) fun ρ => go ctx 24 (Tryd.f24.body.getD .skip) ρ H (fin Tryd.prog Tryd.f24.results.toList)) := enter Tryd.func24 same24 rfl (by kernel_rfl) 7 [a0] H rfl
theorem fb25 : fbody 25 = Tryd.f25.body.getD .skip := by unfold fbody; rw [Tryd.func25]
theorem cg25 (a0 : V) (H : Hp) : callL ctx 25 [a0] H = (fo ([a0] ++ List.replicate 29 undefV) fun ρ => go ctx 25 (Tryd.f25.body.getD .skip) ρ H (fin Tryd.prog Tryd.f25.results.toList)) := enter Tryd.func25 same25 rfl (by kernel_rfl) 29 [a0] H rfl
theorem fb26 : fbody 26 = Tryd.f26.body.getD .skip := by unfold fbody; rw [Tryd.func26]
theorem cg26 (a0 : V) (H : Hp) : callL ctx 26 [a0] H = (fo ([a0] ++ List.replicate 5 undefV) fun ρ => go ctx 26 (Tryd.f26.body.getD .skip) ρ H (fin Tryd.prog Tryd.f26.results.toList)) := enter Tryd.func26 same26 rfl (by kernel_rfl) 5 [a0] H rfl
theorem fb27 : fbody 27 = Tryd.f27.body.getD .skip := by unfold fbody; rw [Tryd.func27]
theorem cg27 (a0 : V) (H : Hp) : callL ctx 27 [a0] H = (fo ([a0] ++ List.replicate 9 undefV) fun ρ => go ctx 27 (Tryd.f27.body.getD .skip) ρ H (fin Tryd.prog Tryd.f27.results.toList)) := enter Tryd.func27 same27 rfl (by kernel_rfl) 9 [a0] H rfl
theorem fb28 : fbody 28 = Tryd.f28.body.getD .skip := by unfold fbody; rw [Tryd.func28]
theorem cg28 (a0 a1 : V) (H : Hp) : callL ctx 28 [a0, a1] H = (fo ([a0, a1] ++ List.replicate 14 undefV) fun ρ => go ctx 28 (Tryd.f28.body.getD .skip) ρ H (fin Tryd.prog Tryd.f28.results.toList)) := enter Tryd.func28 same28 rfl (by kernel_rfl) 14 [a0, a1] H rfl
theorem fb29 : fbody 29 = Tryd.f29.body.getD .skip := by unfold fbody; rw [Tryd.func29]
theorem cg29 (a0 a1 : V) (H : Hp) : callL ctx 29 [a0, a1] H = (fo ([a0, a1] ++ List.replicate 54 undefV) fun ρ => go ctx 29 (Tryd.f29.body.getD .skip) ρ H (fin Tryd.prog Tryd.f29.results.toList)) := enter Tryd.func29 same29 rfl (by kernel_rfl) 54 [a0, a1] H rfl
theorem fb30 : fbody 30 = Tryd.f30.body.getD .skip := by unfold fbody; rw [Tryd.func30]
theorem cg30 (a0 : V) (H : Hp) : callL ctx 30 [a0] H = (fo ([a0] ++ List.replicate 8 undefV) fun ρ => go ctx 30 (Tryd.f30.body.getD .skip) ρ H (fin Tryd.prog Tryd.f30.results.toList)) := enter Tryd.func30 same30 rfl (by kernel_rfl) 8 [a0] H rfl
theorem fb31 : fbody 31 = Tryd.f31.body.getD .skip := by unfold fbody; rw [Tryd.func31]
theorem cg31 (a0 a1 : V) (H : Hp) : callL ctx 31 [a0, a1] H = (fo ([a0, a1] ++ List.replicate 24 undefV) fun ρ => go ctx 31 (Tryd.f31.body.getD .skip) ρ H (fin Tryd.prog Tryd.f31.results.toList)) := enter Tryd.func31 same31 rfl (by kernel_rfl) 24 [a0, a1] H rfl
theorem fb32 : fbody 32 = Tryd.f32.body.getD .skip := by unfold fbody; rw [Tryd.func32]
theorem cg32 (a0 a1 : V) (H : Hp) : callL ctx 32 [a0, a1] H = (fo ([a0, a1] ++ List.replicate 52 undefV) fun ρ => go ctx 32 (Tryd.f32.body.getD .skip) ρ H (fin Tryd.prog Tryd.f32.results.toList)) := enter Tryd.func32 same32 rfl (by kernel_rfl) 52 [a0, a1] H rfl
theorem fb33 : fbody 33 = Tryd.f33.body.getD .skip := by unfold fbody; rw [Tryd.func33]
theorem cg33 (a0 : V) (H : Hp) : callL ctx 33 [a0] H = (fo ([a0] ++ List.replicate 43 undefV) fun ρ => go ctx 33 (Tryd.f33.body.getD .skip) ρ H (fin Tryd.prog Tryd.f33.results.toList)) := enter Tryd.func33 same33 rfl (by kernel_rfl) 43 [a0] H rfl
theorem fb34 : fbody 34 = Tryd.f34.body.getD .skip := by unfold fbody; rw [Tryd.func34]
theorem cg34 (a0 a1 : V) (H : Hp) : callL ctx 34 [a0, a1] H = (fo ([a0, a1] ++ List.replicate 9 undefV) fun ρ => go ctx 34 (Tryd.f34.body.getD .skip) ρ H (fin Tryd.prog Tryd.f34.results.toList)) := enter Tryd.func34 same34 rfl (by kernel_rfl) 9 [a0, a1] H rfl
theorem fb35 : fbody 35 = Tryd.f35.body.getD .skip := by unfold fbody; rw [Tryd.func35]
theorem cg35 (a0 a1 : V) (H : Hp) : callL ctx 35 [a0, a1] H = (fo ([a0, a1] ++ List.replicate 8 undefV) fun ρ => go ctx 35 (Tryd.f35.body.getD .skip) ρ H (fin Tryd.prog Tryd.f35.results.toList)) := enter Tryd.func35 same35 rfl (by kernel_rfl) 8 [a0, a1] H rfl
theorem fb36 : fbody 36 = Tryd.f36.body.getD .skip := by unfold fbody; rw [Tryd.func36]
theorem cg36 (a0 a1 : V) (H : Hp) : callL ctx 36 [a0, a1] H = (fo ([a0, a1] ++ List.replicate 25 undefV) fun ρ => go ctx 36 (Tryd.f36.body.getD .skip) ρ H (fin Tryd.prog Tryd.f36.results.toList)) := enter Tryd.func36 same36 rfl (by kernel_rfl) 25 [a0, a1] H rfl
theorem fb37 : fbody 37 = Tryd.f37.body.getD .skip := by unfold fbody; rw [Tryd.func37]
theorem cg37 (a0 a1 : V) (H : Hp) : callL ctx 37 [a0, a1] H = (fo ([a0, a1] ++ List.replicate 7 undefV) fun ρ => go ctx 37 (Tryd.f37.body.getD .skip) ρ H (fin Tryd.prog Tryd.f37.results.toList)) := enter Tryd.func37 same37 rfl (by kernel_rfl) 7 [a0, a1] H rfl
theorem fb38 : fbody 38 = Tryd.f38.body.getD .skip := by unfold fbody; rw [Tryd.func38]
theorem cg38 (a0 : V) (H : Hp) : callL ctx 38 [a0] H = (fo ([a0] ++ List.replicate 10 undefV) fun ρ => go ctx 38 (Tryd.f38.body.getD .skip) ρ H (fin Tryd.prog Tryd.f38.results.toList)) := enter Tryd.func38 same38 rfl (by kernel_rfl) 10 [a0] H rfl
theorem fb39 : fbody 39 = Tryd.f39.body.getD .skip := by unfold fbody; rw [Tryd.func39]
theorem cg39 (a0 : V) (H : Hp) : callL ctx 39 [a0] H = (fo ([a0] ++ List.replicate 35 undefV) fun ρ => go ctx 39 (Tryd.f39.body.getD .skip) ρ H (fin Tryd.prog Tryd.f39.results.toList)) := enter Tryd.func39 same39 rfl (by kernel_rfl) 35 [a0] H rfl
theorem fb40 : fbody 40 = Tryd.f40.body.getD .skip := by unfold fbody; rw [Tryd.func40]
theorem cg40 (a0 : V) (H : Hp) : callL ctx 40 [a0] H = (fo ([a0] ++ List.replicate 22 undefV) fun ρ => go ctx 40 (Tryd.f40.body.getD .skip) ρ H (fin Tryd.prog Tryd.f40.results.toList)) := enter Tryd.func40 same40 rfl (by kernel_rfl) 22 [a0] H rfl
theorem fb41 : fbody 41 = Tryd.f41.body.getD .skip := by unfold fbody; rw [Tryd.func41]
theorem cg41 (a0 a1 : V) (H : Hp) : callL ctx 41 [a0, a1] H = (fo ([a0, a1] ++ List.replicate 33 undefV) fun ρ => go ctx 41 (Tryd.f41.body.getD .skip) ρ H (fin Tryd.prog Tryd.f41.results.toList)) := enter Tryd.func41 same41 rfl (by kernel_rfl) 33 [a0, a1] H rfl
theorem fb42 : fbody 42 = Tryd.f42.body.getD .skip := by unfold fbody; rw [Tryd.func42]
theorem cg42 (a0 a1 : V) (H : Hp) : callL ctx 42 [a0, a1] H = (fo ([a0, a1] ++ List.replicate 7 undefV) fun ρ => go ctx 42 (Tryd.f42.body.getD .skip) ρ H (fin Tryd.prog Tryd.f42.results.toList)) := enter Tryd.func42 same42 rfl (by kernel_rfl) 7 [a0, a1] H rfl
theorem fb43 : fbody 43 = Tryd.f43.body.getD .skip := by unfold fbody; rw [Tryd.func43]
theorem cg43 (a0 : V) (H : Hp) : callL ctx 43 [a0] H = (fo ([a0] ++ List.replicate 4 undefV) fun ρ => go ctx 43 (Tryd.f43.body.getD .skip) ρ H (fin Tryd.prog Tryd.f43.results.toList)) := enter Tryd.func43 same43 rfl (by kernel_rfl) 4 [a0] H rfl
theorem fb44 : fbody 44 = Tryd.f44.body.getD .skip := by unfold fbody; rw [Tryd.func44]
theorem cg44 (a0 a1 : V) (H : Hp) : callL ctx 44 [a0, a1] H = (fo ([a0, a1] ++ List.replicate 25 undefV) fun ρ => go ctx 44 (Tryd.f44.body.getD .skip) ρ H (fin Tryd.prog Tryd.f44.results.toList)) := enter Tryd.func44 same44 rfl (by kernel_rfl) 25 [a0, a1] H rfl
theorem fb45 : fbody 45 = Tryd.f45.body.getD .skip := by unfold fbody; rw [Tryd.func45]
theorem cg45 (a0 : V) (H : Hp) : callL ctx 45 [a0] H = (fo ([a0] ++ List.replicate 72 undefV) fun ρ => go ctx 45 (Tryd.f45.body.getD .skip) ρ H (fin Tryd.prog Tryd.f45.results.toList)) := enter Tryd.func45 same45 rfl (by kernel_rfl) 72 [a0] H rfl
theorem fb46 : fbody 46 = Tryd.f46.body.getD .skip := by unfold fbody; rw [Tryd.func46]
theorem cg46 (a0 a1 : V) (H : Hp) : callL ctx 46 [a0, a1] H = (fo ([a0, a1] ++ List.replicate 24 undefV) fun ρ => go ctx 46 (Tryd.f46.body.getD .skip) ρ H (fin Tryd.prog Tryd.f46.results.toList)) := enter Tryd.func46 same46 rfl (by kernel_rfl) 24 [a0, a1] H rfl
theorem fb47 : fbody 47 = Tryd.f47.body.getD .skip := by unfold fbody; rw [Tryd.func47]
theorem cg47 (a0 a1 : V) (H : Hp) : callL ctx 47 [a0, a1] H = (fo ([a0, a1] ++ List.replicate 12 undefV) fun ρ => go ctx 47 (Tryd.f47.body.getD .skip) ρ H (fin Tryd.prog Tryd.f47.results.toList)) := enter Tryd.func47 same47 rfl (by kernel_rfl) 12 [a0, a1] H rfl
theorem fb48 : fbody 48 = Tryd.f48.body.getD .skip := by unfold fbody; rw [Tryd.func48]
theorem cg48 (a0 : V) (H : Hp) : callL ctx 48 [a0] H = (fo ([a0] ++ List.replicate 4 undefV) fun ρ => go ctx 48 (Tryd.f48.body.getD .skip) ρ H (fin Tryd.prog Tryd.f48.results.toList)) := enter Tryd.func48 same48 rfl (by kernel_rfl) 4 [a0] H rfl
theorem fb49 : fbody 49 = Tryd.f49.body.getD .skip := by unfold fbody; rw [Tryd.func49]
theorem cg49 (a0 : V) (H : Hp) : callL ctx 49 [a0] H = (fo ([a0] ++ List.replicate 21 undefV) fun ρ => go ctx 49 (Tryd.f49.body.getD .skip) ρ H (fin Tryd.prog Tryd.f49.results.toList)) := enter Tryd.func49 same49 rfl (by kernel_rfl) 21 [a0] H rfl
theorem fb50 : fbody 50 = Tryd.f50.body.getD .skip := by unfold fbody; rw [Tryd.func50]
theorem cg50 (a0 a1 : V) (H : Hp) : callL ctx 50 [a0, a1] H = (fo ([a0, a1] ++ List.replicate 17 undefV) fun ρ => go ctx 50 (Tryd.f50.body.getD .skip) ρ H (fin Tryd.prog Tryd.f50.results.toList)) := enter Tryd.func50 same50 rfl (by kernel_rfl) 17 [a0, a1] H rfl
theorem fb51 : fbody 51 = Tryd.f51.body.getD .skip := by unfold fbody; rw [Tryd.func51]
theorem cg51 (a0 a1 : V) (H : Hp) : callL ctx 51 [a0, a1] H = (fo ([a0, a1] ++ List.replicate 21 undefV) fun ρ => go ctx 51 (Tryd.f51.body.getD .skip) ρ H (fin Tryd.prog Tryd.f51.results.toList)) := enter Tryd.func51 same51 rfl (by kernel_rfl) 21 [a0, a1] H rfl
theorem fb52 : fbody 52 = Tryd.f52.body.getD .skip := by unfold fbody; rw [Tryd.func52]
theorem cg52 (H : Hp) : callL ctx 52 [] H = (fo ([] ++ List.replicate 26 undefV) fun ρ => go ctx 52 (Tryd.f52.body.getD .skip) ρ H (fin Tryd.prog Tryd.f52.results.toList)) := enter Tryd.func52 same52 rfl (by kernel_rfl) 26 [] H rfl
theorem fb53 : fbody 53 = Tryd.f53.body.getD .skip := by unfold fbody; rw [Tryd.func53]
theorem cg53 (a0 a1 : V) (H : Hp) : callL ctx 53 [a0, a1] H = (fo ([a0, a1] ++ List.replicate 17 undefV) fun ρ => go ctx 53 (Tryd.f53.body.getD .skip) ρ H (fin Tryd.prog Tryd.f53.results.toList)) := enter Tryd.func53 same53 rfl (by kernel_rfl) 17 [a0, a1] H rfl
theorem fb54 : fbody 54 = Tryd.f54.body.getD .skip := by unfold fbody; rw [Tryd.func54]
theorem cg54 (a0 : V) (H : Hp) : callL ctx 54 [a0] H = (fo ([a0] ++ List.replicate 38 undefV) fun ρ => go ctx 54 (Tryd.f54.body.getD .skip) ρ H (fin Tryd.prog Tryd.f54.results.toList)) := enter Tryd.func54 same54 rfl (by kernel_rfl) 38 [a0] H rfl
theorem fb55 : fbody 55 = Tryd.f55.body.getD .skip := by unfold fbody; rw [Tryd.func55]
theorem cg55 (a0 : V) (H : Hp) : callL ctx 55 [a0] H = (fo ([a0] ++ List.replicate 4 undefV) fun ρ => go ctx 55 (Tryd.f55.body.getD .skip) ρ H (fin Tryd.prog Tryd.f55.results.toList)) := enter Tryd.func55 same55 rfl (by kernel_rfl) 4 [a0] H rfl
theorem fb56 : fbody 56 = Tryd.f56.body.getD .skip := by unfold fbody; rw [Tryd.func56]
theorem cg56 (a0 a1 : V) (H : Hp) : callL ctx 56 [a0, a1] H = (fo ([a0, a1] ++ List.replicate 15 undefV) fun ρ => go ctx 56 (Tryd.f56.body.getD .skip) ρ H (fin Tryd.prog Tryd.f56.results.toList)) := enter Tryd.func56 same56 rfl (by kernel_rfl) 15 [a0, a1] H rfl
theorem fb57 : fbody 57 = Tryd.f57.body.getD .skip := by unfold fbody; rw [Tryd.func57]
theorem cg57 (a0 : V) (H : Hp) : callL ctx 57 [a0] H = (fo ([a0] ++ List.replicate 13 undefV) fun ρ => go ctx 57 (Tryd.f57.body.getD .skip) ρ H (fin Tryd.prog Tryd.f57.results.toList)) := enter Tryd.func57 same57 rfl (by kernel_rfl) 13 [a0] H rfl
theorem fb58 : fbody 58 = Tryd.f58.body.getD .skip := by unfold fbody; rw [Tryd.func58]
theorem cg58 (a0 : V) (H : Hp) : callL ctx 58 [a0] H = (fo ([a0] ++ List.replicate 20 undefV) fun ρ => go ctx 58 (Tryd.f58.body.getD .skip) ρ H (fin Tryd.prog Tryd.f58.results.toList)) := enter Tryd.func58 same58 rfl (by kernel_rfl) 20 [a0] H rfl
theorem fb59 : fbody 59 = Tryd.f59.body.getD .skip := by unfold fbody; rw [Tryd.func59]
theorem cg59 (a0 a1 : V) (H : Hp) : callL ctx 59 [a0, a1] H = (fo ([a0, a1] ++ List.replicate 52 undefV) fun ρ => go ctx 59 (Tryd.f59.body.getD .skip) ρ H (fin Tryd.prog Tryd.f59.results.toList)) := enter Tryd.func59 same59 rfl (by kernel_rfl) 52 [a0, a1] H rfl
theorem fb60 : fbody 60 = Tryd.f60.body.getD .skip := by unfold fbody; rw [Tryd.func60]
theorem cg60 (a0 : V) (H : Hp) : callL ctx 60 [a0] H = (fo ([a0] ++ List.replicate 19 undefV) fun ρ => go ctx 60 (Tryd.f60.body.getD .skip) ρ H (fin Tryd.prog Tryd.f60.results.toList)) := enter Tryd.func60 same60 rfl (by kernel_rfl) 19 [a0] H rfl
theorem fb61 : fbody 61 = Tryd.f61.body.getD .skip := by unfold fbody; rw [Tryd.func61]
theorem cg61 (a0 : V) (H : Hp) : callL ctx 61 [a0] H = (fo ([a0] ++ List.replicate 14 undefV) fun ρ => go ctx 61 (Tryd.f61.body.getD .skip) ρ H (fin Tryd.prog Tryd.f61.results.toList)) := enter Tryd.func61 same61 rfl (by kernel_rfl) 14 [a0] H rfl
theorem fb62 : fbody 62 = Tryd.f62.body.getD .skip := by unfold fbody; rw [Tryd.func62]
theorem cg62 (a0 : V) (H : Hp) : callL ctx 62 [a0] H = (fo ([a0] ++ List.replicate 14 undefV) fun ρ => go ctx 62 (Tryd.f62.body.getD .skip) ρ H (fin Tryd.prog Tryd.f62.results.toList)) := enter Tryd.func62 same62 rfl (by kernel_rfl) 14 [a0] H rfl
theorem fb63 : fbody 63 = Tryd.f63.body.getD .skip := by unfold fbody; rw [Tryd.func63]
theorem cg63 (a0 a1 : V) (H : Hp) : callL ctx 63 [a0, a1] H = (fo ([a0, a1] ++ List.replicate 165 undefV) fun ρ => go ctx 63 (Tryd.f63.body.getD .skip) ρ H (fin Tryd.prog Tryd.f63.results.toList)) := enter Tryd.func63 same63 rfl (by kernel_rfl) 165 [a0, a1] H rfl
theorem fb64 : fbody 64 = Tryd.f64.body.getD .skip := by unfold fbody; rw [Tryd.func64]
theorem cg64 (a0 a1 a2 a3 a4 : V) (H : Hp) : callL ctx 64 [a0, a1, a2, a3, a4] H = (fo ([a0, a1, a2, a3, a4] ++ List.replicate 97 undefV) fun ρ => go ctx 64 (Tryd.f64.body.getD .skip) ρ H (fin Tryd.prog Tryd.f64.results.toList)) := enter Tryd.func64 same64 rfl (by kernel_rfl) 97 [a0, a1, a2, a3, a4] H rfl
theorem fb66 : fbody 66 = Tryd.f66.body.getD .skip := by unfold fbody; rw [Tryd.func66]
theorem cg66 (a0 : V) (H : Hp) : callL ctx 66 [a0] H = (fo ([a0] ++ List.replicate 5 undefV) fun ρ => go ctx 66 (Tryd.f66.body.getD .skip) ρ H (fin Tryd.prog Tryd.f66.results.toList)) := enter Tryd.func66 same66 rfl (by kernel_rfl) 5 [a0] H rfl
theorem DO3_16 : drawOk (opsOf 16 (fbody 3)) = true := by kernel_rfl
theorem DP3_16 : pairsOf (opsOf 16 (fbody 3)) = [(1, 0), (4, 4), (6, 4), (6, 9), (7, 4)] := by kernel_rfl
theorem DO5_7 : drawOk (opsOf 7 (fbody 5)) = true := by kernel_rfl
theorem DP5_7 : pairsOf (opsOf 7 (fbody 5)) = [(2, 0), (4, 0), (8, 0), (8, 6), (10, 0), (10, 6)] := by kernel_rfl
theorem DO6_4 : drawOk (opsOf 4 (fbody 6)) = true := by kernel_rfl
theorem DP6_4 : pairsOf (opsOf 4 (fbody 6)) = [(2, 0), (2, 6), (3, 0), (3, 6), (6, 6)] := by kernel_rfl
theorem DO6_16 : drawOk (opsOf 16 (fbody 6)) = true := by kernel_rfl
theorem DP6_16 : pairsOf (opsOf 16 (fbody 6)) = [(2, 0), (2, 5)] := by kernel_rfl
theorem DO15_9 : drawOk (opsOf 9 (fbody 15)) = true := by kernel_rfl
theorem DP15_9 : pairsOf (opsOf 9 (fbody 15)) = [(1, 0), (4, 0), (11, 0), (13, 13), (16, 13), (20, 13), (26, 22), (31, 22), (32, 22), (38, 22), (43, 22), (43, 40), (44, 40)] := by kernel_rfl
theorem DO25_7 : drawOk (opsOf 7 (fbody 25)) = true := by kernel_rfl
theorem DP25_7 : pairsOf (opsOf 7 (fbody 25)) = [(5, 0), (5, 3), (5, 4), (5, 5)] := by kernel_rfl
theorem DO31_6 : drawOk (opsOf 6 (fbody 31)) = true := by kernel_rfl
theorem DP31_6 : pairsOf (opsOf 6 (fbody 31)) = [(3, 0), (7, 0), (8, 0)] := by kernel_rfl
theorem DO33_4 : drawOk (opsOf 4 (fbody 33)) = true := by kernel_rfl
theorem DP33_4 : pairsOf (opsOf 4 (fbody 33)) = [(2, 0), (4, 0), (10, 0), (10, 6), (12, 0), (12, 6)] := by kernel_rfl
theorem DO45_6 : drawOk (opsOf 6 (fbody 45)) = true := by kernel_rfl
theorem DP45_6 : pairsOf (opsOf 6 (fbody 45)) = [(6, 0), (7, 0), (7, 11), (7, 14)] := by kernel_rfl
theorem DO46_6 : drawOk (opsOf 6 (fbody 46)) = true := by kernel_rfl
theorem DP46_6 : pairsOf (opsOf 6 (fbody 46)) = [(3, 0), (7, 0), (8, 0)] := by kernel_rfl
theorem DO57_1 : drawOk (opsOf 1 (fbody 57)) = true := by kernel_rfl
theorem DP57_1 : pairsOf (opsOf 1 (fbody 57)) = [(3, 0), (8, 0)] := by kernel_rfl
theorem DO63_7 : drawOk (opsOf 7 (fbody 63)) = true := by kernel_rfl
theorem DP63_7 : pairsOf (opsOf 7 (fbody 63)) = [] := by kernel_rfl
theorem DO63_8 : drawOk (opsOf 8 (fbody 63)) = true := by kernel_rfl
theorem DP63_8 : pairsOf (opsOf 8 (fbody 63)) = [] := by kernel_rfl
theorem DO63_9 : drawOk (opsOf 9 (fbody 63)) = true := by kernel_rfl
theorem DP63_9 : pairsOf (opsOf 9 (fbody 63)) = [] := by kernel_rfl
theorem DO63_10 : drawOk (opsOf 10 (fbody 63)) = true := by kernel_rfl
theorem DP63_10 : pairsOf (opsOf 10 (fbody 63)) = [] := by kernel_rfl
theorem DO63_17 : drawOk (opsOf 17 (fbody 63)) = true := by kernel_rfl
theorem DP63_17 : pairsOf (opsOf 17 (fbody 63)) = [] := by kernel_rfl
theorem DO63_18 : drawOk (opsOf 18 (fbody 63)) = true := by kernel_rfl
theorem DP63_18 : pairsOf (opsOf 18 (fbody 63)) = [] := by kernel_rfl
theorem DO63_23 : drawOk (opsOf 23 (fbody 63)) = true := by kernel_rfl
theorem DP63_23 : pairsOf (opsOf 23 (fbody 63)) = [] := by kernel_rfl
end Go.Proofs.YtnicmcdnpeimoaaDoor
