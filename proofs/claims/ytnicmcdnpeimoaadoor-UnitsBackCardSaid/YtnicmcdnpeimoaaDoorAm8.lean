/-
  Each operation of the model does on memory what the abstract machine says of it, sixth part: literals, the other built-ins; all operations together.
-/
import Derived.Test.YtnicmcdnpeimoaaDoorAm7
import Derived.Lib.UnsafeStr
set_option linter.unusedVariables false
set_option linter.unusedSimpArgs false
namespace Go.Am
open Go.RowKit

variable {P : Program} {w0 w : World} {M : Mp} {H : Hp}

theorem len_sound {ts : Array TypeId} {ty : TypeId} {x v : V} {u : Value} (hx : VR M x u) (hf : vlen P ts x = some v) (w : World) :
    ∃ r, (Builtin.len_ ts ty #[u]).run P w = .ok r w ∧ VR M v r := by
  unfold vlen at hf
  cases ht0 : ts[0]? with
  | none => rw [ht0] at hf; cases hf
  | some t0 =>
  rw [ht0] at hf
  simp only [Option.bind_some] at hf
  have h01 : (#[u] : Array Value)[0]? = some u := rfl
  split at hf
  · rename_i b hu
    cases hf
    simp only [VR] at hx; subst hx
    refine ⟨_, ?_, VR_s _⟩
    unfold Builtin.len_
    rw [ht0, h01]
    simp only [Sem.run_bind, run_under hu, Result.andThen_ok, Sem.run_pure, goInt]
  · cases hf
  · rename_i n _ hu _
    cases hf
    refine ⟨.int .i64 n, ?_, VR_s _⟩
    unfold Builtin.len_
    rw [ht0, h01]
    simp only [Sem.run_bind, run_under hu, Result.andThen_ok, Sem.run_pure, goInt]
  · rename_i len _ _ _ hu
    cases hf
    simp only [VR] at hx
    obtain ⟨a, c', L, rfl, _⟩ := hx
    refine ⟨.int .i64 len, ?_, VR_s _⟩
    unfold Builtin.len_
    rw [ht0, h01]
    simp only [Sem.run_bind, run_under hu, Result.andThen_ok, Sem.run_pure, goInt]
  · rename_i n _ hu
    cases hf
    simp only [VR] at hx; subst hx
    refine ⟨.int .i64 n, ?_, VR_s _⟩
    unfold Builtin.len_
    rw [ht0, h01]
    simp only [Sem.run_bind, run_under hu, Result.andThen_ok, Sem.run_pure, goInt]
  · rename_i a hu
    split at hf
    · rename_i n _ hu2
      cases hf
      refine ⟨.int .i64 n, ?_, VR_s _⟩
      unfold Builtin.len_
      rw [ht0, h01]
      simp only [Sem.run_bind, run_under hu, run_under hu2, Result.andThen_ok, Sem.run_pure, goInt]
    · cases hf
  · cases hf

theorem cap_sound {ts : Array TypeId} {ty : TypeId} {x v : V} {u : Value} (hx : VR M x u) (hf : vcap P ts x = some v) (w : World) :
    ∃ r, (Builtin.cap_ ts ty #[u]).run P w = .ok r w ∧ VR M v r := by
  unfold vcap at hf
  cases ht0 : ts[0]? with
  | none => rw [ht0] at hf; cases hf
  | some t0 =>
  rw [ht0] at hf
  simp only [Option.bind_some] at hf
  have h01 : (#[u] : Array Value)[0]? = some u := rfl
  split at hf
  · rename_i cap _ _ hu
    cases hf
    simp only [VR] at hx
    obtain ⟨a, c', L, rfl, hc, _⟩ := hx
    have := hc trivial
    subst this
    refine ⟨.int .i64 c', ?_, VR_s _⟩
    unfold Builtin.cap_
    rw [ht0, h01]
    simp only [Sem.run_bind, run_under hu, Result.andThen_ok, Sem.run_pure, goInt]
  · rename_i n hu
    cases hf
    simp only [VR] at hx; subst hx
    refine ⟨.int .i64 n, ?_, VR_s _⟩
    unfold Builtin.cap_
    rw [ht0, h01]
    simp only [Sem.run_bind, run_under hu, Result.andThen_ok, Sem.run_pure, goInt]
  · cases hf

theorem minmax_go (mx : Bool) : ∀ (l : List V) (us : List Value) (x r : V) (u : Value), VR M x u → VRs M l us → l.foldlM (vmin2 mx) x = some r →
    ∃ z, (us.foldlM (if mx then Builtin.max2 else Builtin.min2) u : Sem Value).run P w = .ok z w ∧ VR M r z
  | [], us, x, r, u, hx, hl, h => by
    simp only [VRs] at hl; subst hl
    simp only [List.foldlM_nil] at h ⊢
    cases h
    exact ⟨u, rfl, hx⟩
  | y :: l, us, x, r, u, hx, hl, h => by
    simp only [VRs] at hl
    obtain ⟨u', us', rfl, h1, h2⟩ := hl
    simp only [List.foldlM_cons] at h ⊢
    obtain ⟨m, hm, h⟩ := obind h
    have : ∃ z, ((if mx then Builtin.max2 else Builtin.min2) u u' : Sem Value).run P w = .ok z w ∧ VR M m z := by
      unfold vmin2 at hm
      split at hm
      · cases hm
        simp only [VR] at hx h1; subst hx; subst h1
        cases mx
        · exact ⟨_, rfl, VR_s _⟩
        · exact ⟨_, rfl, VR_s _⟩
      · cases hm
    obtain ⟨z, z1, z2⟩ := this
    obtain ⟨q, q1, q2⟩ := minmax_go mx l us' m r z z2 h2 h
    refine ⟨q, ?_, q2⟩
    simp only [Sem.run_bind, z1, Result.andThen_ok, q1]

theorem max_sound {ts : Array TypeId} {ty : TypeId} {l : List V} {us : List Value} {v : V} (hl : VRs M l us) (hf : vminmax true l = some v) (w : World) :
    ∃ r, (Builtin.max_ ts ty us.toArray).run P w = .ok r w ∧ VR M v r := by
  cases l with
  | nil => cases hf
  | cons x l =>
    simp only [VRs] at hl
    obtain ⟨u, us', rfl, h1, h2⟩ := hl
    obtain ⟨z, z1, z2⟩ := minmax_go (P := P) (w := w) true l us' x v u h1 h2 hf
    exact ⟨z, z1, z2⟩

theorem min_sound {ts : Array TypeId} {ty : TypeId} {l : List V} {us : List Value} {v : V} (hl : VRs M l us) (hf : vminmax false l = some v) (w : World) :
    ∃ r, (Builtin.min_ ts ty us.toArray).run P w = .ok r w ∧ VR M v r := by
  cases l with
  | nil => cases hf
  | cons x l =>
    simp only [VRs] at hl
    obtain ⟨u, us', rfl, h1, h2⟩ := hl
    obtain ⟨z, z1, z2⟩ := minmax_go (P := P) (w := w) false l us' x v u h1 h2 hf
    exact ⟨z, z1, z2⟩

theorem flen_run {x : V} {u : Value} {k : Nat} (hx : VR M x u) (hk : flen x = some k) (w : World) : (Builtin.lenOf u).run P w = .ok k w := by
  unfold flen at hk
  split at hk
  · cases hk; simp only [VR] at hx; obtain ⟨a, c', L, rfl, _⟩ := hx; rfl
  · cases hk; simp only [VR] at hx; subst hx; rfl
  · cases hk; simp only [VR] at hx; subst hx; rfl
  · cases hk

theorem firstCells_zero {x : V} {u : Value} {k : Nat} (sz : Nat) (hx : VR M x u) (hk : flen x = some k) (w : World) : (Builtin.firstCells sz 0 u).run P w = .ok #[] w := by
  unfold flen at hk
  split at hk
  · cases hk; simp only [VR] at hx; obtain ⟨a, c', L, rfl, _⟩ := hx
    unfold Builtin.firstCells
    simp only [Nat.zero_mul]
    rfl
  · cases hk; simp only [VR] at hx; subst hx; rfl
  · rename_i b
    cases hk; simp only [VR] at hx; subst hx
    unfold Builtin.firstCells
    simp only [Sem.run_pure]
    congr 1
    apply Array.ext'
    simp
  · cases hk

theorem copy_sound (hR : Rel w0 M H w) {ts : Array TypeId} {ty : TypeId} {d x v : V} {u1 u2 : Value} {H' : Hp} (hd : VR M d u1) (hx : VR M x u2) (hf : vcopy P H ts d x = some (v, H')) :
    ∃ r w' M', (Builtin.copy_ ts ty #[u1, u2]).run P w = .ok r w' ∧ VR M' v r ∧ Rel w0 M' H' w' ∧ Ext M M' := by
  unfold vcopy at hf
  cases ht0 : ts[0]? with
  | none => rw [ht0] at hf; cases hf
  | some t0 =>
  rw [ht0] at hf
  simp only [Option.bind_some] at hf
  cases hu : P.underlying t0 with
  | none => rw [hu] at hf; cases hf
  | some dd =>
  rw [hu] at hf
  cases dd <;> try (cases hf; done)
  rename_i e
  dsimp only at hf
  obtain ⟨k, hk, hfa⟩ := obind hf
  clear hf
  obtain ⟨m, hm, hf⟩ := obind hfa
  clear hfa
  have h01 : (#[u1, u2] : Array Value)[0]? = some u1 := rfl
  have h02 : (#[u1, u2] : Array Value)[1]? = some u2 := rfl
  have hlen := flen_run (P := P) hx hm w
  split at hf
  · rename_i n g off len cap ex sz n' g' off' len' cap' ex' sz'
    split at hf
    · cases hf
    · rename_i hc
      have h1 : sz = k := by omega
      have h2 : sz' = k := by omega
      have h3 : m ≠ 0 := by omega
      have h4 : len ≠ 0 := by omega
      subst h1; subst h2
      obtain ⟨new, hnew, hf1⟩ := obind hf
      clear hf
      obtain ⟨H2, hst, hf⟩ := obind hf1
      clear hf1
      cases hf
      simp only [VR] at hd hx
      obtain ⟨a, c1, L1, rfl, p1, p2, p3, p4, p5⟩ := hd
      obtain ⟨a2, c2, L2, rfl, r1, r2, r3, r4, r5⟩ := hx
      simp only [flen, Option.some.injEq] at hm
      subst hm
      obtain ⟨L, us, s1, s2, s3, s4, s5, s6⟩ := hR.loads P hnew
      rw [r3] at s1; cases s1
      obtain ⟨L', t1, t2, t3, t4⟩ := hR.stores P hst s4
      rw [p3] at t1; cases t1
      have ha : a = ⟨L1.b, L1.base + off, none⟩ := by
        rcases (p5 t2).1 with q | q
        · omega
        · exact q
      have ha2 : a2 = ⟨L2.b, L2.base + off', none⟩ := by
        rcases (r5 s2).1 with q | q
        · omega
        · exact q
      have hfc : (Builtin.firstCells sz' (Nat.min len' len) (.slice (some a2) len' c2)).run P w = .ok us.toArray w := by
        unfold Builtin.firstCells
        rw [ha2]
        exact s5
      refine ⟨.int .i64 (min len' len : Nat), _, M, ?_, VR_s _, t3, Ext.refl _⟩
      unfold Builtin.copy_
      rw [ht0, h01, h02]
      simp only [Sem.run_bind, run_under hu, Result.andThen_ok, hlen, sizeOf_run hk, hfc]
      rw [ha]
      simp only [Sem.run_bind, t4, Result.andThen_ok, Sem.run_pure, goInt]
  · split at hf
    · rename_i hm0
      cases hf
      subst hm0
      simp only [VR] at hd; subst hd
      refine ⟨_, w, M, ?_, VR_s _, hR, Ext.refl _⟩
      unfold Builtin.copy_
      rw [ht0, h01, h02]
      simp only [Sem.run_bind, run_under hu, Result.andThen_ok, hlen, sizeOf_run hk]
      rw [show Nat.min 0 0 = 0 from rfl, firstCells_zero k hx hm w]
      rfl
    · cases hf
  · split at hf
    · rename_i hm0
      cases hf
      subst hm0
      simp only [VR] at hd
      obtain ⟨a, c1, L1, rfl, p1, p2, p3, p4, p5⟩ := hd
      refine ⟨.int .i64 0, w, M, ?_, VR_s _, hR, Ext.refl _⟩
      unfold Builtin.copy_
      rw [ht0, h01, h02]
      simp only [Sem.run_bind, run_under hu, Result.andThen_ok, hlen, sizeOf_run hk]
      rw [Nat.min_eq_left (Nat.zero_le _) |> (show Nat.min 0 _ = 0 from ·), firstCells_zero k hx hm w]
      rfl
    · cases hf
  · cases hf


/-! ### Literals -/

theorem spliceA_zip : ∀ (us : List Value) (c : Array Value) (off k : Nat), (us.zipIdx k).foldl (fun cs (p : Value × Nat) => cs.setIfInBounds (off + p.2) p.1) c = spliceA c (off + k) us
  | [], c, off, k => rfl
  | u :: us, c, off, k => by
    simp only [List.zipIdx_cons, List.foldl_cons, spliceA]
    rw [spliceA_zip us _ off (k + 1)]
    rfl

theorem fill_sound {place : Nat → Option (Nat × Nat)} : ∀ (ps : List (Nat × V)) (qs : List (Nat × Value)) (cells r : List V) (c : Array Value), VRs M cells c.toList →
    qs.length = ps.length → (∀ (i : Nat) (p : Nat × V) (q : Nat × Value), ps[i]? = some p → qs[i]? = some q → p.1 = q.1 ∧ VR M p.2 q.2) → Am.fill place cells ps = some r →
    ∃ c', Instr.fill place c qs = some c' ∧ VRs M r c'.toList
  | [], qs, cells, r, c, hc, hl, hp, hf => by
    cases qs with
    | nil => simp only [Am.fill] at hf; cases hf; exact ⟨c, rfl, hc⟩
    | cons q qs => simp at hl
  | (i, v) :: ps, qs, cells, r, c, hc, hl, hp, hf => by
    cases qs with
    | nil => simp at hl
    | cons q qs =>
      obtain ⟨j, u⟩ := q
      obtain ⟨h1, h2⟩ := hp 0 _ _ rfl rfl
      dsimp only at h1 h2
      subst h1
      simp only [Am.fill] at hf
      split at hf
      · rename_i off size cs hpl hcs
        split at hf
        · rename_i hb
          obtain ⟨b1, b2⟩ := hb
          have hvs := VR_cells h2 hcs
          have hul := VRs_length hvs
          have hcl := VRs_length hc
          simp only [Array.length_toList] at hul hcl
          have hsp : VRs M (splice cells off cs) (spliceA c off u.cells.toList).toList := by
            refine VRs_of_get (by simp only [Array.length_toList, spliceA_size, splice_length]; exact hcl) fun k x y hx hy => ?_
            rw [splice_get _ _ _ _ (by omega)] at hx
            rw [Array.getElem?_toList, spliceA_get _ _ _ _ (by simp only [Array.length_toList]; omega)] at hy
            by_cases hk : off ≤ k ∧ k < off + cs.length
            · rw [if_pos hk] at hx
              rw [if_pos (by simp only [Array.length_toList]; omega)] at hy
              obtain ⟨y', e1, e2⟩ := VRs_get hvs hx
              rw [e1] at hy; cases hy; exact e2
            · rw [if_neg hk] at hx
              rw [if_neg (by simp only [Array.length_toList]; omega)] at hy
              obtain ⟨y', e1, e2⟩ := VRs_get hc hx
              rw [Array.getElem?_toList] at e1
              rw [e1] at hy; cases hy; exact e2
          obtain ⟨c', q1, q2⟩ := fill_sound ps qs _ r _ hsp (by simpa using hl) (fun k p q hp' hq' => hp (k + 1) p q (by simpa using hp') (by simpa using hq')) hf
          refine ⟨c', ?_, q2⟩
          simp only [Instr.fill, hpl]
          have hcond : ((decide (u.cells.size ≠ size)) || decide (off + u.cells.size > c.size)) = false := by
            simp only [Bool.or_eq_false_iff, decide_eq_false_iff_not]
            exact ⟨by omega, by omega⟩
          rw [if_neg (by simp only [hcond]; simp)]
          have hz : (u.cells.zipIdx.foldl (fun cs (p : Value × Nat) => cs.setIfInBounds (off + p.2) p.1) c) = spliceA c off u.cells.toList := by
            rw [← Array.foldl_toList, Array.toList_zipIdx, spliceA_zip, Nat.add_zero]
          rw [← q1, ← hz]
        · cases hf
      · cases hf

theorem mapM_sizes (fs : List Field) : ∀ (places : List (Nat × Nat)), (fs.mapM fun f => (Am.sizeOf P f.type).bind fun k => some (f.offset, k)) = some places → ∀ w : World,
    (fs.mapM fun f => (do pure (f.offset, ← Go.sizeOf f.type) : Sem (Nat × Nat))).run P w = .ok places w := by
  induction fs with
  | nil => intro places h w; simp only [List.mapM_nil] at h; cases h; rfl
  | cons f fs ih =>
    intro places h w
    simp only [List.mapM_cons] at h
    obtain ⟨p, h1, h⟩ := obind h
    obtain ⟨ps, h2, h⟩ := obind h
    cases h
    obtain ⟨k, h3, h4⟩ := obind h1
    cases h4
    simp only [List.mapM_cons, Sem.run_bind, sizeOf_run h3, Result.andThen_ok, Sem.run_pure, ih ps h2 w]

theorem build_sound {t : TypeId} {ps : List (Nat × V)} {qs : List (Nat × Value)} {v : V} (hl : qs.length = ps.length)
    (hp : ∀ (i : Nat) (p : Nat × V) (q : Nat × Value), ps[i]? = some p → qs[i]? = some q → p.1 = q.1 ∧ VR M p.2 q.2) (hf : vbuild P t ps = some v) (w : World) :
    ∃ r, (Instr.build t qs.toArray).run P w = .ok r w ∧ VR M v r := by
  unfold vbuild at hf
  obtain ⟨z, hz, hfa⟩ := obind hf
  clear hf
  have hz0 : VRs M (z.cells.toList.map V.s) z.cells.toList := VRs_s _
  dsimp only at hfa
  split at hfa
  · rename_i fields hu
    obtain ⟨places, h1, hfb⟩ := obind hfa
    clear hfa
    obtain ⟨r, h2, h3⟩ := omap hfb
    subst h3
    obtain ⟨c', q1, q2⟩ := fill_sound ps qs _ r _ hz0 hl hp h2
    refine ⟨.agg c', ?_, by simp only [VR]; exact ⟨c'.toList, by simp, q2⟩⟩
    unfold Instr.build
    have hm := mapM_sizes fields.toList places h1 w
    have hq : (fun i : Nat => (places.toArray)[i]?) = (fun i : Nat => places[i]?) := by funext i; simp
    simp only [Sem.run_bind, zero_run hz, run_under hu, Result.andThen_ok]
    rw [Array.mapM_eq_mapM_toList]
    simp only [Sem.run_map, hm, Result.andThen_ok, hq, q1, Sem.run_pure]
  · rename_i n e hu
    obtain ⟨k, h1, hfb⟩ := obind hfa
    clear hfa
    obtain ⟨r, h2, h3⟩ := omap hfb
    subst h3
    obtain ⟨c', q1, q2⟩ := fill_sound ps qs _ r _ hz0 hl hp h2
    refine ⟨.agg c', ?_, by simp only [VR]; exact ⟨c'.toList, by simp, q2⟩⟩
    unfold Instr.build
    simp only [Sem.run_bind, zero_run hz, run_under hu, Result.andThen_ok, sizeOf_run h1, q1, Sem.run_pure]
  · cases hfa

theorem buildSlice_sound (hR : Rel w0 M H w) {t : TypeId} {len : Nat} {ps : List (Nat × V)} {qs : List (Nat × Value)} {v : V} {H' : Hp} (hl : qs.length = ps.length)
    (hp : ∀ (i : Nat) (p : Nat × V) (q : Nat × Value), ps[i]? = some p → qs[i]? = some q → p.1 = q.1 ∧ VR M p.2 q.2) (hf : vbuildSlice P H t len ps = some (v, H')) :
    ∃ r w' M', (Instr.buildSlice t len qs.toArray).run P w = .ok r w' ∧ VR M' v r ∧ Rel w0 M' H' w' ∧ Ext M M' := by
  unfold vbuildSlice at hf
  split at hf
  · rename_i e hu
    obtain ⟨i, hi, hfa⟩ := obind hf
    clear hf
    obtain ⟨z, hz, hfb⟩ := obind hfa
    clear hfa
    split at hfb
    · rename_i hb
      obtain ⟨b1, b2⟩ := hb
      obtain ⟨cs, h1, h2⟩ := obind hfb
      clear hfb
      cases h2
      have hsz : Am.sizeOf P e = some i.size := by unfold Am.sizeOf; rw [hi]; rfl
      have hzr : zeroOf P e = some z := by unfold zeroOf; rw [hi]; exact hz
      let zz : Array Value := if len * i.size = 0 then #[] else z.cells
      let c : Array Value := (Array.range (len * i.size)).map fun j => zz[j % zz.size]!
      have hc : VRs M (zeroCells z.cells.toList len) c.toList := by
        refine VRs_of_get (by simp [c, zeroCells_length, b1]) fun j x y hx hy => ?_
        obtain ⟨p1, p2⟩ := zeroCells_get _ _ _ _ hx
        subst p2
        simp only [Array.length_toList, b1] at p1
        have hne : len * i.size ≠ 0 := by omega
        have hj : j % i.size < z.cells.size := by rw [b1]; exact Nat.mod_lt _ (Nat.pos_of_ne_zero fun q => by rw [q] at p1; omega)
        simp only [c, zz, hne, if_false, Array.getElem?_toList] at hy
        rw [Array.getElem?_eq_getElem (by simpa using p1)] at hy
        simp only [Array.getElem_map, Array.getElem_range, b1, Option.some.injEq] at hy
        subst hy
        simp only [VR, List.getD, Array.length_toList, b1]
        rw [getElem!_pos z.cells _ hj]
        simp [hj]
      obtain ⟨c', q1, q2⟩ := fill_sound ps qs _ cs c hc hl hp h1
      obtain ⟨r1, r2⟩ := hR.alloc cs c' e (by have := VRs_length q2; simp only [Array.length_toList] at this; omega) (fun j x hx => by
        obtain ⟨y, e1, e2⟩ := VRs_get q2 hx
        exact ⟨y, by simpa using e1, e2⟩)
      refine ⟨.slice (some ⟨w.heap.size, 0, none⟩) len len, _, _, ?_, ?_, r1, r2⟩
      · unfold Instr.buildSlice
        have hn : ¬ (len * i.size > 2 ^ 24) := by omega
        simp only [Sem.run_bind, run_under hu, Result.andThen_ok, sizeOf_run hsz, hn, if_false, Sem.run_ite, Sem.run_pure, zero_run hzr]
        have hcc : ∀ z' : Array Value, z' = zz → (Array.range (len * i.size)).map (fun j => z'[j % z'.size]!) = c := fun z' h => by rw [h]
        by_cases h0 : len * i.size = 0
        · simp only [h0, if_true, Result.andThen_ok]
          have := hcc #[] (by simp [zz, h0])
          rw [h0] at this
          rw [this, q1]
          rfl
        · simp only [h0, if_false, Result.andThen_ok]
          have := hcc z.cells (by simp [zz, h0])
          rw [this, q1]
          rfl
      · simp only [VR]
        exact ⟨_, len, _, rfl, fun _ => rfl, Nat.le_refl _, upd_same _ _ _, Nat.le_refl _, fun _ => ⟨.inr rfl, fun q => by simp at q⟩⟩
    · cases hfb
  · cases hf


/-! ### Strings made of a slice's bytes -/

theorem sliceData_sound {ts : Array TypeId} {ty : TypeId} {x v : V} {u : Value} (hx : VR M x u) (hf : vsliceData x = some v) (w : World) :
    ∃ r, (Builtin.unsafeSliceData_ ts ty #[u]).run P w = .ok r w ∧ VR M v r := by
  unfold vsliceData at hf
  split at hf
  · rename_i n g off len cap ex sz
    split at hf
    · cases hf
    · rename_i hc
      cases hf
      simp only [VR] at hx ⊢
      obtain ⟨a, c', L, rfl, e1, e2, e3, e4, e5⟩ := hx
      have hc0 : c' ≠ 0 := by
        intro e
        apply hc
        refine ⟨by omega, ?_⟩
        cases ex with
        | false => exact .inl rfl
        | true => right; rw [← e1 rfl]; exact e
      refine ⟨.pointer (some a), ?_, a, L, rfl, e3, e4, fun q => ?_⟩
      · exact Lib.run_unsafeSliceData_row w ts ty a len c' hc0
      · rcases (e5 q).1 with h | h
        · exact absurd h hc0
        · exact h
  · cases hf
    simp only [VR] at hx; subst hx
    exact ⟨_, rfl, VR_s _⟩
  · cases hf

theorem unsafeString_sound (hR : Rel w0 M H w) {ts : Array TypeId} {ty : TypeId} {p n v : V} {u1 u2 : Value} {H' : Hp} (hp : VR M p u1) (hn : VR M n u2) (hf : vunsafeString P H ts p n = some (v, H')) :
    ∃ r w' M', (Builtin.unsafeString_ ts ty #[u1, u2]).run P w = .ok r w' ∧ VR M' v r ∧ Rel w0 M' H' w' ∧ Ext M M' := by
  unfold vunsafeString at hf
  split at hf
  · rename_i pt it n hts
    have hts : ts = #[pt, it] := by apply Array.ext'; simpa using hts
    subst hts
    simp only [VR] at hn; subst hn
    split at hf
    · split at hf
      · rename_i h0
        cases hf
        subst h0
        simp only [VR] at hp; subst hp
        exact ⟨_, w, M, Lib.run_unsafeString_none w pt it ty none, VR_s _, hR, Ext.refl _⟩
      · cases hf
    · rename_i m g off
      split at hf
      · rename_i h0
        cases hf
        subst h0
        simp only [VR] at hp
        obtain ⟨a, L, rfl, _⟩ := hp
        exact ⟨_, w, M, Lib.run_unsafeString_none w pt it ty (some a), VR_s _, hR, Ext.refl _⟩
      · split at hf
        · rename_i u hu
          obtain ⟨b, hb, hf1⟩ := obind hf
          clear hf
          split at hf1
          · rename_i hc
            obtain ⟨c0, c1, c2, c3, c4, c5, c6, c7⟩ := hc
            obtain ⟨l, h1, h2⟩ := obind hf1
            cases h2
            obtain ⟨hb, hbg⟩ := blk_some hb
            obtain ⟨L, c, e, fz, q1, q2, q3, q4, q5, q6, q7⟩ := hR.blk m b hb
            obtain ⟨q8, q9⟩ := hR.kind m b L c e fz hb q1 q3
            have hbase := q9 c6
            simp only [VR] at hp
            obtain ⟨a, L', rfl, e1, e2, e3⟩ := hp
            rw [q1] at e1; cases e1
            have ha := e3 (q2.trans hbg)
            rw [hbase, c5] at ha
            subst ha
            have hld : loads H m g 0 n.toNat = some (b.cells.take n.toNat) := by
              unfold Am.loads Am.blk
              rw [hb]
              simp only [hbg, if_true, Option.bind_some, Nat.zero_add, List.drop_zero]
              rw [if_pos c7]
            obtain ⟨L2, us, r1, r2, r3, r4, r5, r6⟩ := hR.loads P hld
            rw [q1] at r1; cases r1
            obtain ⟨s1, s2⟩ := bytes_cells r4 h1
            have hll : l.length = n.toNat := by rw [s1]; simp; omega
            have hnl : n = (l.length : Int) := by rw [hll]; omega
            have hsh : w.shape? L.b = some (u, c.size) := by unfold World.shape?; rw [q3, q8, c3]
            have hrun := Lib.run_unsafeString_row (P := P) w pt it ty u hu c4 L.b c.size hsh l (by intro e; subst e; simp at hll; omega) (by omega) (by omega) (fun j x hx => by
              rw [add_none]
              have := r6 j _ (s2 j x hx)
              rw [hbase] at this
              exact this)
            rw [hnl]
            refine ⟨_, _, M, hrun, VR_s _, ?_, Ext.refl _⟩
            have hfr : (w.freeze ⟨L.b, 0, none⟩ l.length).heap[L.b]? = some (.cells c e (if (fz.1 == fz.2) = true then (0, 0 + l.length) else (min fz.1 0, max fz.2 (0 + l.length)))) := by
              unfold World.freeze
              rw [if_neg (by omega)]
              simp [Array.getElem?_modify, q3]
            have := hR.put m ({ b with rw := false } : Blk) L (H.set m { b with rw := false }) c (if (fz.1 == fz.2) = true then (0, 0 + l.length) else (min fz.1 0, max fz.2 (0 + l.length)))
              (Ext_upd q1 (.inr rfl)) (Hp.get_set_same _ _ _) (fun k hk => Hp.get_set_other _ _ _ _ hk) (by simp [Hp.set]) (by simpa [Hp.set] using next_gt hR hb)
              (by rw [← q8]; exact hfr) (fun q => by simp at q) (fun _ => hbase) q4 q2 q5 (by rw [upd_self q1]; exact q6)
              (fun k hk _ => by
                unfold World.freeze
                rw [if_neg (by omega)]
                simp only [Array.getElem?_modify]
                rw [if_neg (fun e => hk e.symm)])
              (q7 c0).1 (.inl ⟨b, L, hb, c0, q1, rfl⟩) (Lib.below_freeze hR.below (q7 c0).1 _) (w' := w.freeze ⟨L.b, 0, none⟩ l.length)
            rw [upd_self q1] at this; exact this
          · cases hf1
        · cases hf
    · cases hf
  · cases hf

end Go.Am
