/-
  The abstract heap at the beginning, and what the call comes to in the model.
-/
import Derived.Test.YtnicmcdnpeimoaaDoorC2
set_option linter.unusedVariables false
set_option linter.unusedSimpArgs false
set_option maxRecDepth 1000000
set_option maxHeartbeats 4000000
namespace Go.Proofs.YtnicmcdnpeimoaaDoor
open Go.Am Go.ChangeShapes Go.WideShapes Go.ChangeAt Go.RowKit

def hx (e0 e1 : TypeId) : Option Blk → Hp
  | none => hv e0 e1
  | some b => { t := (hv e0 e1).t.set NG (some b), next := NG + 1 }
theorem hv_get (e0 e1 n : Nat) : (hv e0 e1).get n = if n = 1 then some ⟨powCells, 0, false, e1, false⟩ else if n = 0 then some ⟨flagCells, 0, false, e0, false⟩ else none := by
  unfold hv
  rw [Hp.get_set_at]
  split
  · rfl
  · by_cases h : n = 0
    · subst h; rw [if_pos rfl]; exact Tr.get_set_same _ _ _
    · rw [if_neg h]; exact (Tr.get_set_other _ _ _ _ h).trans (Tr.get_nil n)
theorem hx_next (e0 e1 : Nat) (b : Option Blk) : NG ≤ (hx e0 e1 b).next := by
  cases b with
  | none => exact Nat.le_refl _
  | some b => exact Nat.le_succ _
theorem hx_get (e0 e1 : Nat) (b : Option Blk) (n : Nat) (h : n < NG) : (hx e0 e1 b).get n = (hv e0 e1).get n := by
  cases b with
  | none => rfl
  | some b =>
    unfold hx
    rw [Hp.get_set_at, if_neg (by omega)]; rfl
theorem hx_at (e0 e1 : Nat) (b : Blk) : (hx e0 e1 (some b)).get NG = some b := by
  unfold hx; rw [Hp.get_set_at, if_pos rfl]
def Mb (s0 s1 : Nat) (x : Option Am.Loc) : Mp := fun n => if n = 999 then some ⟨0, 0, 0, 1⟩ else if n = 0 then some ⟨0, 0, s0, 0⟩ else if n = 1 then some ⟨1, 0, s1, 0⟩ else if n < NG then some ⟨n, 0, 0, 0⟩ else if n = NG then x else none

theorem flagCells_eq : flagCells = (flagNs.map (Value.int .u8)).map V.s := rfl
theorem powCells_eq : powCells = (powNs.map (Value.int .u64)).map V.s := by
  simp only [powCells, powNs, List.map_map]; rfl
theorem flag_bs : flagCells = bs flagL := rfl

theorem start {W : World} {c0 c1 : Array Value} {e0 e1 : TypeId} {f0 f1 : Nat × Nat} (h0 : W.heap[0]? = some (.cells c0 e0 f0)) (k0 : c0.toList = flagNs.map (Value.int .u8)) (h1 : W.heap[1]? = some (.cells c1 e1 f1)) (k1 : c1.toList = powNs.map (Value.int .u64))
    (b : Option Blk) (x : Option Am.Loc) (hbx : (b = none ∧ x = none) ∨ ∃ (B : Blk) (L : Am.Loc) (c : Array Value) (fz : Nat × Nat), b = some B ∧ x = some L ∧ B.rw = false ∧ B.z = false ∧ B.g = 0 ∧ L.g = 0 ∧ W.heap[L.b]? = some (.cells c B.e fz) ∧ c.size = L.msz ∧ L.base + B.cells.length ≤ L.msz ∧
      ∀ i v, B.cells[i]? = some v → ∃ y, v = .s y ∧ c[L.base + i]? = some y) :
    Rel W (Mb c0.size c1.size x) (hx e0 e1 b) W := by
  have z0 : c0.size = 8 := by rw [← Array.length_toList, k0]; rfl
  have z1 : c1.size = 20 := by rw [← Array.length_toList, k1]; rfl
  refine rel_start ?_ ?_ ?_
  · intro n B hn
    by_cases hlt : n < NG
    · rw [hx_get _ _ _ _ hlt, hv_get] at hn
      by_cases n1 : n = 1
      · subst n1
        rw [if_pos rfl] at hn
        cases hn
        refine ⟨rfl, rfl, rfl, ⟨1, 0, c1.size, 0⟩, c1, e1, f1, rfl, rfl, h1, rfl, ?_, rfl, ?_⟩
        · rw [z1]; show 0 + powCells.length ≤ 20; simp [powCells]
        · intro i v hi
          rw [powCells_eq, List.getElem?_map] at hi
          cases hq : (powNs.map (Value.int .u64))[i]? with
          | none => rw [hq] at hi; cases hi
          | some y =>
            rw [hq] at hi; cases hi
            exact ⟨y, rfl, by rw [Nat.zero_add, ← Array.getElem?_toList, k1]; exact hq⟩
      · rw [if_neg n1] at hn
        by_cases n0 : n = 0
        · subst n0
          rw [if_pos rfl] at hn
          cases hn
          refine ⟨rfl, rfl, rfl, ⟨0, 0, c0.size, 0⟩, c0, e0, f0, rfl, rfl, h0, rfl, ?_, rfl, ?_⟩
          · rw [z0]; show 0 + flagCells.length ≤ 8; simp [flagCells]
          · intro i v hi
            rw [flagCells_eq, List.getElem?_map] at hi
            cases hq : (flagNs.map (Value.int .u8))[i]? with
            | none => rw [hq] at hi; cases hi
            | some y =>
              rw [hq] at hi; cases hi
              exact ⟨y, rfl, by rw [Nat.zero_add, ← Array.getElem?_toList, k0]; exact hq⟩
        · rw [if_neg n0] at hn; cases hn
    · rcases hbx with ⟨rfl, rfl⟩ | ⟨B', L, c, fz, rfl, rfl, q1, q2, q3, q4, q5, q6, q7, q8⟩
      · have : (hx e0 e1 none).get n = none := by
          show (hv e0 e1).get n = none
          rw [hv_get, if_neg (by unfold NG at hlt; omega), if_neg (by unfold NG at hlt; omega)]
        rw [this] at hn; cases hn
      · by_cases hN : n = NG
        · subst hN
          rw [hx_at] at hn
          cases hn
          exact ⟨q1, q2, q3, L, c, B.e, fz, rfl, q4, q5, q6, q7, rfl, q8⟩
        · have : (hx e0 e1 (some B')).get n = none := by
            unfold hx
            rw [Hp.get_set_at, if_neg hN]
            show (hv e0 e1).get n = none
            rw [hv_get, if_neg (by unfold NG at hlt; omega), if_neg (by unfold NG at hlt; omega)]
          rw [this] at hn; cases hn
  · intro n hn
    have hNn : NG ≤ n := Nat.le_trans (hx_next e0 e1 b) hn
    have hx0 : (hv e0 e1).get n = none := by rw [hv_get, if_neg (by unfold NG at hNn; omega), if_neg (by unfold NG at hNn; omega)]
    have hM : ∀ x, n ≠ NG ∨ x = none → Mb c0.size c1.size x n = none := by
      intro x hc
      unfold Mb
      rw [if_neg (by unfold NG at hNn; omega), if_neg (by unfold NG at hNn; omega), if_neg (by unfold NG at hNn; omega), if_neg (by omega)]
      rcases hc with hc | rfl
      · rw [if_neg hc]
      · split <;> rfl
    rcases hbx with ⟨rfl, rfl⟩ | ⟨B', L, c, fz, rfl, rfl, _⟩
    · exact ⟨hx0, hM _ (.inr rfl)⟩
    · have : n ≠ NG := by
        have : NG + 1 ≤ n := hn
        omega
      refine ⟨?_, hM _ (.inl this)⟩
      unfold hx
      rw [Hp.get_set_at, if_neg this]; exact hx0
  · intro g hg
    by_cases g9 : g = 999
    · subst g9
      exact ⟨⟨0, 0, 0, 1⟩, rfl, fun h => by cases h⟩
    · by_cases g0 : g = 0
      · subst g0; exact ⟨_, rfl, fun _ => ⟨rfl, rfl⟩⟩
      · by_cases g1 : g = 1
        · subst g1; exact ⟨_, rfl, fun _ => ⟨rfl, rfl⟩⟩
        · exact ⟨⟨g, 0, 0, 0⟩, by unfold Mb; rw [if_neg g9, if_neg g0, if_neg g1, if_pos hg], fun _ => ⟨rfl, rfl⟩⟩

theorem sameOk0 : SameOk ctx0 := by
  intro f hf
  have : f = 65 := by simpa [ctx0] using hf
  subst this
  exact .inr ⟨rfl, Tryd.f65, Tryd.func65, by kernel_rfl, by kernel_rfl, by kernel_rfl, by kernel_rfl⟩
theorem sameOk1 : SameOk ctx := by
  intro f hf
  have : f = 65 ∨ f = 15 := by simpa [ctx] using hf
  rcases this with rfl | rfl
  · exact .inr ⟨rfl, Tryd.f65, Tryd.func65, by kernel_rfl, by kernel_rfl, by kernel_rfl, by kernel_rfl⟩
  · exact .inl ⟨rfl, fun H v hv => orcTrue_fact hv⟩
theorem callsOk0 : CallOk Tryd.prog (callL ctx0) := callL_ok ctx0 mixed sameOk0
theorem callsOk : CallOk Tryd.prog (callL ctx) := callL_ok ctx mixed sameOk1

theorem lives_orc (e0 e1 : Nat) (b : Option Blk) (H : Hp) (h : Fr (hx e0 e1 b).next (hx e0 e1 b) H) : callL ctx 15 [] H = some (.s (.bool true), H) := by
  obtain ⟨H0', hr⟩ := isTrue_of (lives_true e0 e1)
  have hr' : callL ctx0 15 [] (hv e0 e1) = some (.s (.bool true), H0') := callL_some.2 ⟨400, hr⟩
  have hb : ∃ c, Tryd.f15.body = some c := by
    cases hc : Tryd.f15.body with
    | none => have : Tryd.f15.body.isSome = true := rfl; rw [hc] at this; cases this
    | some c => exact ⟨c, rfl⟩
  obtain ⟨c, hc⟩ := hb
  have hv' : Vars (hv e0 e1) H := by
    refine ⟨rfl, ?_, ?_⟩
    · intro n B hn
      have hlt : n < NG := by
        rw [hv_get] at hn
        unfold NG
        split at hn
        · omega
        · split at hn
          · omega
          · cases hn
      refine ⟨hlt, ?_, ?_⟩
      · rw [hv_get] at hn
        split at hn
        · cases hn; rfl
        · split at hn
          · cases hn; rfl
          · cases hn
      · rw [h.2 n (Nat.lt_of_lt_of_le hlt (hx_next e0 e1 b)), hx_get _ _ _ _ hlt]; exact hn
    · intro n B hn v hv
      rw [hv_get] at hn
      split at hn
      · cases hn
        have hv : v ∈ powCells := hv
        rw [powCells_eq] at hv
        obtain ⟨y, _, rfl⟩ := List.mem_map.1 hv
        exact ⟨y, rfl⟩
      · split at hn
        · cases hn
          have hv : v ∈ flagCells := hv
          rw [flagCells_eq] at hv
          obtain ⟨y, _, rfl⟩ := List.mem_map.1 hv
          exact ⟨y, rfl⟩
        · cases hn
  have hf := orc_of callsOk0 hr' Tryd.func15 hc (by kernel_rfl) hv'
  rw [callL_eq]
  have ho : ctx.orc 15 H = some (B true) := orcTrue_ok hf
  unfold acallBody
  have hs : ctx.same 15 = true := rfl
  have hi : ctx.isOrc 15 = true := rfl
  rw [if_pos hs]
  simp only [hi, cond_true, ho]
  rfl
end Go.Proofs.YtnicmcdnpeimoaaDoor
