/-
  Every operation that calls no function of the program: what the abstract machine says of it holds of the model.
-/
import Derived.Test.YtnicmcdnpeimoaaDoorAm8
set_option linter.unusedVariables false
set_option linter.unusedSimpArgs false
namespace Go.Am
open Go.RowKit

variable {P : Program} {w0 w : World} {M : Mp} {H : Hp}

theorem alloc_sound (hR : Rel w0 M H w) {e : TypeId} {v : V} {H' : Hp} (hf : ((zeroOf P e).bind fun z => newVar H e (.s z)) = some (v, H')) :
    ∃ r w' M', (Instr.alloc e true (.tuple #[])).run P w = .ok r w' ∧ VR M' v r ∧ Rel w0 M' H' w' ∧ Ext M M' := by
  obtain ⟨z, hz, hf⟩ := obind hf
  obtain ⟨a, w', M', h1, h2, h3, h4⟩ := newVar_sound (P := P) (t := e) (u := z) hR hf (VR_s z)
  refine ⟨_, w', M', ?_, h2, h3, h4⟩
  unfold Instr.alloc
  simp only [Sem.run_bind, zero_run hz, Result.andThen_ok, h1, Sem.run_pure]

theorem ev_map (ρ : List V) (a : Act) (hev : ∀ x, VR M (ev ρ x) (a.eval x)) (xs : List Operand) : VRs M (xs.map (ev ρ)) (xs.map a.eval) :=
  VRs_of_get (by simp) fun i v u hv hu => by
    rw [List.getElem?_map] at hv hu
    cases hx : xs[i]? with
    | none => rw [hx] at hv; cases hv
    | some x => rw [hx] at hv hu; cases hv; cases hu; exact hev x

theorem blt_sound (hR : Rel w0 M H w) {b : Builtin} {ts : Array TypeId} {ty : TypeId} {cs : Array Bool} {l : List V} {us : List Value} {v : V} {H' : Hp} (hl : VRs M l us) (hf : vbuiltin P H b ts l = some (v, H')) :
    ∃ r w' M', (builtin b ts ty cs us.toArray).run P w = .ok (.value r) w' ∧ VR M' v r ∧ Rel w0 M' H' w' ∧ Ext M M' := by
  unfold vbuiltin at hf
  split at hf
  · simp only [VRs] at hl
    obtain ⟨u1, us1, rfl, h1, u2, us2, rfl, h2, rfl⟩ := hl
    obtain ⟨r, w', M', q1, q2, q3, q4⟩ := append_sound (ty := ty) hR h1 h2 hf
    refine ⟨r, w', M', ?_, q2, q3, q4⟩
    unfold builtin
    simp only [Sem.run_bind, q1, Result.andThen_ok, Sem.run_pure]
  · simp only [VRs] at hl
    obtain ⟨u1, us1, rfl, h1, u2, us2, rfl, h2, rfl⟩ := hl
    obtain ⟨r, w', M', q1, q2, q3, q4⟩ := copy_sound (ty := ty) hR h1 h2 hf
    refine ⟨r, w', M', ?_, q2, q3, q4⟩
    unfold builtin
    simp only [Sem.run_bind, q1, Result.andThen_ok, Sem.run_pure]
  · obtain ⟨x, hx, he⟩ := omap hf
    cases he
    simp only [VRs] at hl
    obtain ⟨u1, us1, rfl, h1, rfl⟩ := hl
    obtain ⟨r, q1, q2⟩ := len_sound (P := P) (ty := ty) h1 hx w
    refine ⟨r, w, M, ?_, q2, hR, Ext.refl _⟩
    unfold builtin
    simp only [Sem.run_bind, q1, Result.andThen_ok, Sem.run_pure]
  · obtain ⟨x, hx, he⟩ := omap hf
    cases he
    simp only [VRs] at hl
    obtain ⟨u1, us1, rfl, h1, rfl⟩ := hl
    obtain ⟨r, q1, q2⟩ := cap_sound (P := P) (ty := ty) h1 hx w
    refine ⟨r, w, M, ?_, q2, hR, Ext.refl _⟩
    unfold builtin
    simp only [Sem.run_bind, q1, Result.andThen_ok, Sem.run_pure]
  · obtain ⟨x, hx, he⟩ := omap hf
    cases he
    obtain ⟨r, q1, q2⟩ := max_sound (P := P) (ts := ts) (ty := ty) hl hx w
    refine ⟨r, w, M, ?_, q2, hR, Ext.refl _⟩
    unfold builtin
    simp only [Sem.run_bind, q1, Result.andThen_ok, Sem.run_pure]
  · obtain ⟨x, hx, he⟩ := omap hf
    cases he
    obtain ⟨r, q1, q2⟩ := min_sound (P := P) (ts := ts) (ty := ty) hl hx w
    refine ⟨r, w, M, ?_, q2, hR, Ext.refl _⟩
    unfold builtin
    simp only [Sem.run_bind, q1, Result.andThen_ok, Sem.run_pure]
  · obtain ⟨x, hx, he⟩ := omap hf
    cases he
    simp only [VRs] at hl
    obtain ⟨u1, us1, rfl, h1, rfl⟩ := hl
    obtain ⟨r, q1, q2⟩ := sliceData_sound (P := P) (ts := ts) (ty := ty) h1 hx w
    refine ⟨r, w, M, ?_, q2, hR, Ext.refl _⟩
    unfold builtin
    simp only [Sem.run_bind, q1, Result.andThen_ok, Sem.run_pure]
  · simp only [VRs] at hl
    obtain ⟨u1, us1, rfl, h1, u2, us2, rfl, h2, rfl⟩ := hl
    obtain ⟨r, w', M', q1, q2, q3, q4⟩ := unsafeString_sound (ty := ty) hR h1 h2 hf
    refine ⟨r, w', M', ?_, q2, q3, q4⟩
    unfold builtin
    simp only [Sem.run_bind, q1, Result.andThen_ok, Sem.run_pure]
  · cases hf

theorem omap_VRo (ρ : List V) (a : Act) (hev : ∀ x, VR M (ev ρ x) (a.eval x)) (o : Option Operand) : VRo M (o.map (ev ρ)) (o.map a.eval) := by
  cases o with
  | none => rfl
  | some x => exact ⟨_, rfl, hev x⟩

theorem parts_rel (ρ : List V) (a : Act) (hev : ∀ x, VR M (ev ρ x) (a.eval x)) (ps : List (Nat × Operand)) (i : Nat) (p : Nat × V) (q : Nat × Value)
    (hp : (ps.map fun (i, x) => (i, ev ρ x))[i]? = some p) (hq : (ps.map fun (i, x) => (i, a.eval x))[i]? = some q) : p.1 = q.1 ∧ VR M p.2 q.2 := by
  rw [List.getElem?_map] at hp hq
  cases hx : ps[i]? with
  | none => rw [hx] at hp; cases hp
  | some x => rw [hx] at hp hq; cases hp; cases hq; exact ⟨rfl, hev _⟩

/-- What a step of the model must give. -/
def Gives (P : Program) (w0 : World) (M : Mp) (w : World) (s : Sem Next) (v : V) (H' : Hp) : Prop :=
  ∃ nx u w' M', s.run P w = .ok nx w' ∧ ((nx = .value u) ∨ (nx = .skip ∧ u = undef)) ∧ VR M' v u ∧ Rel w0 M' H' w' ∧ Ext M M'

theorem gives_pure (hR : Rel w0 M H w) {s : Sem Value} {v : V} (h : ∃ y, s.run P w = .ok y w ∧ VR M v y) : Gives P w0 M w (do pure (.value (← s))) v H := by
  obtain ⟨y, h1, h2⟩ := h
  exact ⟨_, y, w, M, by simp only [Sem.run_bind, h1, Result.andThen_ok, Sem.run_pure], .inl rfl, h2, hR, Ext.refl _⟩

theorem gives_mem {s : Sem Value} {v : V} {H' : Hp} (h : ∃ r w' M', s.run P w = .ok r w' ∧ VR M' v r ∧ Rel w0 M' H' w' ∧ Ext M M') : Gives P w0 M w (do pure (.value (← s))) v H' := by
  obtain ⟨y, w', M', h1, h2, h3, h4⟩ := h
  exact ⟨_, y, w', M', by simp only [Sem.run_bind, h1, Result.andThen_ok, Sem.run_pure], .inl rfl, h2, h3, h4⟩

theorem aop_sound (hR : Rel w0 M H w) {ρ : List V} {a : Act} (hev : ∀ x, VR M (ev ρ x) (a.eval x)) (o : Oper) {v : V} {H' : Hp} (hf : aop P ρ H o.op = some (v, H')) :
    Gives P w0 M w (execOp a.eval o) v H' := by
  obtain ⟨dst, op, ty, pos, after, guard⟩ := o
  dsimp only at hf
  unfold execOp
  dsimp only
  cases op <;> simp only [aop] at hf <;> (try (cases hf; done)) <;> (try dsimp only)
  case move x => cases hf; exact ⟨_, a.eval x, w, M, rfl, .inl rfl, hev x, hR, Ext.refl _⟩
  case assign x => cases hf; exact ⟨_, a.eval x, w, M, rfl, .inl rfl, hev x, hR, Ext.refl _⟩
  case pick c x y =>
    have hc := hev c
    split at hf
    · rename_i t ht
      rw [ht] at hc
      simp only [VR] at hc
      cases hf
      cases t
      · exact ⟨_, a.eval y, w, M, by rw [hc]; rfl, .inl rfl, hev y, hR, Ext.refl _⟩
      · exact ⟨_, a.eval x, w, M, by rw [hc]; rfl, .inl rfl, hev x, hR, Ext.refl _⟩
    · cases hf
  case alloc e => exact gives_mem (alloc_sound hR hf)
  case box e x =>
    obtain ⟨b, w', M', h1, h2, h3, h4⟩ := newVar_sound (P := P) (t := e) hR hf (hev x)
    refine gives_mem ⟨_, w', M', ?_, h2, h3, h4⟩
    unfold Instr.box
    simp only [Sem.run_bind, h1, Result.andThen_ok, Sem.run_pure]
  case build t ps =>
    obtain ⟨x, hx, he⟩ := omap hf
    cases he
    have := build_sound (P := P) (M := M) (t := t) (ps := ps.toList.map fun (i, x) => (i, ev ρ x)) (qs := ps.toList.map fun (i, x) => (i, a.eval x)) (by simp) (parts_rel ρ a hev ps.toList) hx w
    refine gives_pure hR ?_
    have he : (ps.map fun (i, x) => (i, a.eval x)) = (ps.toList.map fun (i, x) => (i, a.eval x)).toArray := by apply Array.ext'; simp
    rw [he]; exact this
  case buildSlice t len ps =>
    have := buildSlice_sound (P := P) (M := M) hR (t := t) (len := len) (ps := ps.toList.map fun (i, x) => (i, ev ρ x)) (qs := ps.toList.map fun (i, x) => (i, a.eval x)) (by simp) (parts_rel ρ a hev ps.toList) hf
    refine gives_mem ?_
    have he : (ps.map fun (i, x) => (i, a.eval x)) = (ps.toList.map fun (i, x) => (i, a.eval x)).toArray := by apply Array.ext'; simp
    rw [he]; exact this
  case load t x =>
    have hx := hev x
    split at hf
    · rename_i n g off hv
      rw [hv] at hx
      simp only [VR] at hx
      obtain ⟨y, hy, he⟩ := omap hf
      cases he
      obtain ⟨L, u, h1, h2, h3, h4⟩ := loadVar_sound hR hy
      obtain ⟨ad, L', e1, e2, e3, e4⟩ := hx
      rw [h1] at e2; cases e2
      refine gives_pure hR ⟨u, ?_, h4⟩
      unfold Instr.loadAt Instr.sureAddr
      rw [e1, e4 h2]
      simpa using h3
    · cases hf
  case store t x y =>
    have hx := hev x
    split at hf
    · rename_i n g off hv
      rw [hv] at hx
      simp only [VR] at hx
      obtain ⟨H2, hy, he⟩ := omap hf
      cases he
      obtain ⟨L, w', h1, h2, h3, h4⟩ := storeVar_sound hR hy (hev y)
      obtain ⟨ad, L', e1, e2, e3, e4⟩ := hx
      rw [h1] at e2; cases e2
      refine ⟨.skip, undef, w', M, ?_, .inr ⟨rfl, rfl⟩, VR_s _, h4, Ext.refl _⟩
      unfold Instr.storeAt Instr.sureAddr
      rw [e1, e4 h2]
      simp only [Sem.run_bind, Sem.run_pure, Result.andThen_ok, h3]
    · cases hf
  case nilCheck x =>
    have hx := hev x
    split at hf
    · rename_i n g off hv
      cases hf
      rw [hv] at hx
      have hx' := hx
      simp only [VR] at hx
      obtain ⟨ad, L', e1, e2, e3, e4⟩ := hx
      exact ⟨_, a.eval x, w, M, by rw [e1]; rfl, .inl rfl, hx', hR, Ext.refl _⟩
    · rename_i f fst c hv
      cases hf
      rw [hv] at hx
      have hx' := hx
      simp only [VR] at hx
      obtain ⟨as, cs, e1, e2⟩ := hx
      exact ⟨_, a.eval x, w, M, by rw [e1]; rfl, .inl rfl, hx', hR, Ext.refl _⟩
    · rename_i t y hv
      cases hf
      rw [hv] at hx
      have hx' := hx
      simp only [VR] at hx
      obtain ⟨cs, e1, e2⟩ := hx
      exact ⟨_, a.eval x, w, M, by rw [e1]; rfl, .inl rfl, hx', hR, Ext.refl _⟩
    · cases hf
  case binOp op t x y ty =>
    obtain ⟨r, hr, he⟩ := omap hf
    cases he
    exact gives_pure hR (bin_sound hR (hev x) (hev y) hr)
  case unOp op t x =>
    obtain ⟨r, hr, he⟩ := omap hf
    cases he
    exact gives_pure hR (un_sound (hev x) hr w)
  case convert s d x =>
    obtain ⟨r, hr, he⟩ := omap hf
    cases he
    exact gives_pure hR (conv_sound hR (hev x) hr)
  case makeInterface t x =>
    cases hu : P.underlying t with
    | none => rw [hu] at hf; cases hf
    | some d =>
      rw [hu] at hf
      refine gives_pure (v := v) (H := H') ?_ ?_
      · cases d <;> first | (cases hf; done) | (cases hf; exact hR)
      · cases d <;> first
          | (cases hf; done)
          | (cases hf
             exact ⟨.iface t (a.eval x), by unfold Instr.makeInterface; simp only [Sem.run_bind, run_under hu, Result.andThen_ok, Sem.run_pure], by simp only [VR]; exact ⟨_, rfl, hev x⟩⟩)
  case makeFunc fn first captured =>
    cases fn <;> try (cases hf; done)
    simp only at hf
    cases hf
    refine gives_pure hR ⟨.func (.func _) (first.map a.eval) (captured.map a.eval), rfl, ?_⟩
    simp only [VR]
    refine ⟨first.toList.map a.eval, captured.toList.map a.eval, ?_, ev_map ρ a hev _, ev_map ρ a hev _⟩
    congr 1 <;> (apply Array.ext'; simp)
  case makeSlice t l c => exact gives_mem (makeSlice_sound hR (hev l) (hev c) hf)
  case slice t x lo hi mx =>
    obtain ⟨r, hr, he⟩ := omap hf
    cases he
    exact gives_pure hR (slice_sound hR (hev x) (omap_VRo ρ a hev lo) (omap_VRo ρ a hev hi) (omap_VRo ρ a hev mx) hr)
  case fieldAddr s x f =>
    obtain ⟨r, hr, he⟩ := omap hf
    cases he
    exact gives_pure hR (fieldAddr_sound (hev x) hr w)
  case field s x f =>
    obtain ⟨r, hr, he⟩ := omap hf
    cases he
    exact gives_pure hR (field_sound (hev x) hr w)
  case indexAddr t x i =>
    obtain ⟨r, hr, he⟩ := omap hf
    cases he
    exact gives_pure hR (indexAddr_sound (hev x) (hev i) hr w)
  case index t x i =>
    obtain ⟨r, hr, he⟩ := omap hf
    cases he
    exact gives_pure hR (index_sound (hev x) (hev i) hr w)
  case extract x i =>
    obtain ⟨r, hr, he⟩ := omap hf
    cases he
    exact gives_pure hR (extract_sound (hev x) hr w)
  case call c =>
    obtain ⟨callee, args, ats⟩ := c
    cases callee <;> try (cases hf; done)
    rename_i b
    simp only at hf
    obtain ⟨r, w', M', q1, q2, q3, q4⟩ := blt_sound (ty := ty) (cs := args.map fun | .const _ => true | _ => false) hR (ev_map ρ a hev args.toList) hf
    refine ⟨_, r, w', M', ?_, .inl rfl, q2, q3, q4⟩
    unfold resolve invoke
    have he : args.map a.eval = (args.toList.map a.eval).toArray := by apply Array.ext'; simp
    simp only [Sem.run_bind, Sem.run_pure, Result.andThen_ok, he]
    exact q1

end Go.Am
