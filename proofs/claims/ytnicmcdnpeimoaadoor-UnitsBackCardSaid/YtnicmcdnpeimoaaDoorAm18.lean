/-
  Rules for what stands in memory.
-/
import Derived.Test.YtnicmcdnpeimoaaDoorAm17
set_option linter.unusedVariables false
set_option linter.unusedSimpArgs false
namespace Go.Am

section
variable {R : Type}
def sb (x : Option Blk) (k : Blk → Option R) : Option R := match x with | some b => k b | none => none
theorem sb_first {x y : Option Blk} {k : Blk → Option R} (h : x = y) : sb x k = sb y k := by rw [h]
theorem sb_some (b : Blk) (k : Blk → Option R) : sb (some b) k = k b := Eq.trans rfl rfl
end

variable (H : Hp) (n m g off : Nat) (b : Blk) (cs : List V) (e : TypeId) (rw z : Bool) (v : V)

theorem blk_alloc_same : blk (H.alloc cs e) H.next 0 = some ⟨cs, 0, true, e, true⟩ := blk_of (Hp.get_alloc_same _ _ _) rfl
theorem blk_alloc_at (h : n = H.next) : blk (H.alloc cs e) n 0 = some ⟨cs, 0, true, e, true⟩ := by rw [h]; exact blk_alloc_same ..
theorem alloc_put_at (cs' : List V) (h : n = H.next) : (H.alloc cs e).set n ⟨cs', 0, true, e, true⟩ = H.alloc cs' e := by rw [h]; exact alloc_put ..
theorem blk_alloc_other (h : n ≠ H.next) : blk (H.alloc cs e) n g = blk H n g := by unfold blk; rw [Hp.get_alloc_other _ _ _ _ h]
theorem blk_set_same (h : b.g = g) : blk (H.set n b) n g = some b := blk_of (Hp.get_set_same _ _ _) h
theorem blk_set_other (h : m ≠ n) : blk (H.set n b) m g = blk H m g := by unfold blk; rw [Hp.get_set_other _ _ _ _ h]
theorem blk_get {H H' : Hp} {n : Nat} (h : H'.get n = H.get n) (g : Nat) : blk H' n g = blk H n g := by unfold blk; rw [h]
theorem loads_get {H H' : Hp} {n : Nat} (h : H'.get n = H.get n) (g off k : Nat) : loads H' n g off k = loads H n g off k := by unfold loads; rw [blk_get h]

def ldm (P : Program) (t : TypeId) (off : Nat) (b : Blk) : Option V := b.cells[off]?
def ld1 (off : Nat) (b : Blk) : Option V := b.cells[off]?
def ldA (off k : Nat) (b : Blk) : Option V := if off + k ≤ b.cells.length then some (.agg ((b.cells.drop off).take k)) else none
theorem ld1_mk : ld1 off ⟨cs, g, rw, e, z⟩ = cs[off]? := Eq.trans rfl rfl
theorem ldA_mk (k : Nat) (h : off + k ≤ cs.length) : ldA off k ⟨cs, g, rw, e, z⟩ = some (.agg ((cs.drop off).take k)) := Eq.trans (if_pos h) rfl
theorem ldA_all (k : Nat) (h : cs.length = k) : ldA 0 k ⟨cs, g, rw, e, z⟩ = some (.agg cs) := by
  rw [ldA_mk _ _ _ _ _ _ _ (by omega), List.drop_zero, List.take_of_length_le (by omega)]
theorem load_one {P : Program} {t : TypeId} (ht : isAgg P t = some false) : loadVar P H t n g off = sb (blk H n g) (ld1 off) := by
  unfold loadVar; rw [ht]; simp only [Option.bind_some, Bool.false_eq_true, if_false]
  cases blk H n g <;> rfl
theorem load_agg {P : Program} {t : TypeId} {k : Nat} (ht : isAgg P t = some true) (hk : sizeOf P t = some k) : loadVar P H t n g off = sb (blk H n g) (ldA off k) := by
  unfold loadVar loads; rw [ht]; simp only [Option.bind_some, if_true, hk]
  cases blk H n g with
  | none => rfl
  | some b =>
    simp only [Option.bind_some, sb, ldA]
    split <;> rfl

def st1 (H : Hp) (n off : Nat) (v : V) (b : Blk) : Option Hp := if b.rw = true ∧ off < b.cells.length then some (H.set n { b with cells := b.cells.set off v }) else none
theorem store_one {P : Program} {t : TypeId} (ht : sizeOf P t = some 1) (hv : v.cells = some [v]) (h1 : v.one = true) : storeVar P H t n g off v = sb (blk H n g) (st1 H n off v) := by
  unfold storeVar stores
  rw [hv]
  simp only [Option.bind_some, ht, List.length_cons, List.length_nil, Nat.zero_add, if_true]
  cases blk H n g with
  | none => rfl
  | some b =>
    simp only [Option.bind_some, sb, st1, List.all_cons, List.all_nil, h1, Bool.and_true, true_and, splice]
    rfl
theorem st1_mk (h : off < cs.length) : st1 H n off v ⟨cs, g, true, e, z⟩ = some (H.set n ⟨cs.set off v, g, true, e, z⟩) := Eq.trans (if_pos ⟨rfl, h⟩) rfl

theorem splice_all : ∀ (vs cs pre : List V), cs.length = vs.length → splice (pre ++ cs) pre.length vs = pre ++ vs := by
  intro vs
  induction vs with
  | nil => intro cs pre h; cases cs <;> simp_all [splice]
  | cons v vs ih =>
    intro cs pre h
    cases cs with
    | nil => simp at h
    | cons c cs =>
      simp only [splice]
      have := ih cs (pre ++ [v]) (by simpa using h)
      simp only [List.length_append, List.length_cons, List.length_nil, List.append_assoc, List.cons_append, List.nil_append] at this
      simpa using this

def stA (H : Hp) (n off : Nat) (vs : List V) (b : Blk) : Option Hp := if b.rw = true ∧ off + vs.length ≤ b.cells.length then some (H.set n { b with cells := splice b.cells off vs }) else none
theorem store_agg {P : Program} {t : TypeId} {k : Nat} {vs : List V} (ht : sizeOf P t = some k) (h1 : vs.all V.one = true) (hl : vs.length = k) :
    storeVar P H t n g off (.agg vs) = sb (blk H n g) (stA H n off vs) := by
  unfold storeVar stores
  simp only [V.cells, Option.bind_some, ht, hl, if_true]
  cases blk H n g with
  | none => rfl
  | some b => simp only [Option.bind_some, sb, stA, h1, true_and, hl]
theorem stA_all (vs : List V) (h : cs.length = vs.length) : stA H n 0 vs ⟨cs, g, true, e, z⟩ = some (H.set n ⟨vs, g, true, e, z⟩) := by
  unfold stA
  rw [if_pos ⟨rfl, by simp; omega⟩]
  have := splice_all vs cs [] h
  simp only [List.nil_append, List.length_nil] at this
  rw [this]

theorem newVar_agg (t : TypeId) (cs : List V) : newVar H t (.agg cs) = some (.ptr H.next 0 0, H.alloc cs t) := Eq.trans rfl rfl
theorem newVar_int (t : TypeId) (k : IntKind) (x : Int) : newVar H t (.s (.int k x)) = some (.ptr H.next 0 0, H.alloc [.s (.int k x)] t) := Eq.trans rfl rfl

theorem loads_of {H : Hp} {n g off k : Nat} {b : Blk} (h : blk H n g = some b) (hk : off + k ≤ b.cells.length) : loads H n g off k = some ((b.cells.drop off).take k) := by
  unfold loads; rw [h]; exact if_pos hk
theorem of_loads {H : Hp} {n g off k : Nat} {l : List V} (h : loads H n g off k = some l) : ∃ b, blk H n g = some b ∧ off + k ≤ b.cells.length ∧ (b.cells.drop off).take k = l := by
  unfold loads at h
  cases hb : blk H n g with
  | none => rw [hb] at h; cases h
  | some b =>
    rw [hb] at h
    simp only [Option.bind_some] at h
    split at h
    · cases h; exact ⟨b, rfl, by assumption, rfl⟩
    · cases h
theorem loads_at {H : Hp} {n g off k i : Nat} {l : List V} {v : V} (h : loads H n g off k = some l) (hi : l[i]? = some v) : sb (blk H n g) (ld1 (off + i)) = some v := by
  obtain ⟨b, h1, h2, h3⟩ := of_loads h
  rw [h1]
  simp only [sb, ld1]
  subst h3
  rw [List.getElem?_take, ] at hi
  split at hi
  · rw [List.getElem?_drop] at hi; exact hi
  · cases hi
theorem loads_sub {H : Hp} {n g off k : Nat} {l : List V} (h : loads H n g off k = some l) (i j : Nat) (hj : i + j ≤ k) : loads H n g (off + i) j = some ((l.drop i).take j) := by
  obtain ⟨b, h1, h2, h3⟩ := of_loads h
  rw [loads_of h1 (by omega)]
  subst h3
  congr 1
  rw [List.drop_take, List.drop_drop, List.take_take]
  congr 1
  omega
theorem loads_len {H : Hp} {n g off k : Nat} {l : List V} (h : loads H n g off k = some l) : l.length = k := by
  obtain ⟨b, h1, h2, h3⟩ := of_loads h
  subst h3; simp; omega
/-! ### Numbers -/
theorem na1 (a : Nat) : (a : Int) + 1 = ((a + 1 : Nat) : Int) := Eq.trans rfl rfl
theorem ns1 (a : Nat) (h : 1 ≤ a) : (a : Int) - 1 = ((a - 1 : Nat) : Int) := by omega
theorem na2 (a : Nat) : (a : Int) + 2 = ((a + 2 : Nat) : Int) := Eq.trans rfl rfl
theorem ns2 (a : Nat) (h : 2 ≤ a) : (a : Int) - 2 = ((a - 2 : Nat) : Int) := by omega
theorem na3 (a : Nat) : (a : Int) + 3 = ((a + 3 : Nat) : Int) := Eq.trans rfl rfl
theorem ns3 (a : Nat) (h : 3 ≤ a) : (a : Int) - 3 = ((a - 3 : Nat) : Int) := by omega
theorem na4 (a : Nat) : (a : Int) + 4 = ((a + 4 : Nat) : Int) := Eq.trans rfl rfl
theorem ns4 (a : Nat) (h : 4 ≤ a) : (a : Int) - 4 = ((a - 4 : Nat) : Int) := by omega
theorem na5 (a : Nat) : (a : Int) + 5 = ((a + 5 : Nat) : Int) := Eq.trans rfl rfl
theorem ns5 (a : Nat) (h : 5 ≤ a) : (a : Int) - 5 = ((a - 5 : Nat) : Int) := by omega
theorem na6 (a : Nat) : (a : Int) + 6 = ((a + 6 : Nat) : Int) := Eq.trans rfl rfl
theorem ns6 (a : Nat) (h : 6 ≤ a) : (a : Int) - 6 = ((a - 6 : Nat) : Int) := by omega
theorem na7 (a : Nat) : (a : Int) + 7 = ((a + 7 : Nat) : Int) := Eq.trans rfl rfl
theorem ns7 (a : Nat) (h : 7 ≤ a) : (a : Int) - 7 = ((a - 7 : Nat) : Int) := by omega
theorem na8 (a : Nat) : (a : Int) + 8 = ((a + 8 : Nat) : Int) := Eq.trans rfl rfl
theorem ns8 (a : Nat) (h : 8 ≤ a) : (a : Int) - 8 = ((a - 8 : Nat) : Int) := by omega
theorem na10 (a : Nat) : (a : Int) + 10 = ((a + 10 : Nat) : Int) := Eq.trans rfl rfl
theorem ns10 (a : Nat) (h : 10 ≤ a) : (a : Int) - 10 = ((a - 10 : Nat) : Int) := by omega
theorem na15 (a : Nat) : (a : Int) + 15 = ((a + 15 : Nat) : Int) := Eq.trans rfl rfl
theorem ns15 (a : Nat) (h : 15 ≤ a) : (a : Int) - 15 = ((a - 15 : Nat) : Int) := by omega
theorem na16 (a : Nat) : (a : Int) + 16 = ((a + 16 : Nat) : Int) := Eq.trans rfl rfl
theorem ns16 (a : Nat) (h : 16 ≤ a) : (a : Int) - 16 = ((a - 16 : Nat) : Int) := by omega
theorem na62 (a : Nat) : (a : Int) + 62 = ((a + 62 : Nat) : Int) := Eq.trans rfl rfl
theorem ns62 (a : Nat) (h : 62 ≤ a) : (a : Int) - 62 = ((a - 62 : Nat) : Int) := by omega
theorem na63 (a : Nat) : (a : Int) + 63 = ((a + 63 : Nat) : Int) := Eq.trans rfl rfl
theorem ns63 (a : Nat) (h : 63 ≤ a) : (a : Int) - 63 = ((a - 63 : Nat) : Int) := by omega
theorem na64 (a : Nat) : (a : Int) + 64 = ((a + 64 : Nat) : Int) := Eq.trans rfl rfl
theorem ns64 (a : Nat) (h : 64 ≤ a) : (a : Int) - 64 = ((a - 64 : Nat) : Int) := by omega
theorem na127 (a : Nat) : (a : Int) + 127 = ((a + 127 : Nat) : Int) := Eq.trans rfl rfl
theorem ns127 (a : Nat) (h : 127 ≤ a) : (a : Int) - 127 = ((a - 127 : Nat) : Int) := by omega
theorem na128 (a : Nat) : (a : Int) + 128 = ((a + 128 : Nat) : Int) := Eq.trans rfl rfl
theorem ns128 (a : Nat) (h : 128 ≤ a) : (a : Int) - 128 = ((a - 128 : Nat) : Int) := by omega
theorem na255 (a : Nat) : (a : Int) + 255 = ((a + 255 : Nat) : Int) := Eq.trans rfl rfl
theorem ns255 (a : Nat) (h : 255 ≤ a) : (a : Int) - 255 = ((a - 255 : Nat) : Int) := by omega
theorem na256 (a : Nat) : (a : Int) + 256 = ((a + 256 : Nat) : Int) := Eq.trans rfl rfl
theorem ns256 (a : Nat) (h : 256 ≤ a) : (a : Int) - 256 = ((a - 256 : Nat) : Int) := by omega
theorem naa (a b : Nat) : (a : Int) + (b : Int) = ((a + b : Nat) : Int) := Eq.trans rfl rfl
theorem nss (a b : Nat) (h : b ≤ a) : (a : Int) - (b : Int) = ((a - b : Nat) : Int) := by omega
theorem nmm (a b : Nat) : (a : Int) * (b : Int) = ((a * b : Nat) : Int) := Eq.trans rfl rfl
theorem nls (a b : Nat) : ((a : Int) < (b : Int)) = (a < b) := by simp
theorem nle (a b : Nat) : ((a : Int) ≤ (b : Int)) = (a ≤ b) := by simp
theorem fdn8 (a : Nat) : (a : Int).fdiv ((2 : Int) ^ 8) = ((a / 256 : Nat) : Int) := by
  rw [Int.fdiv_eq_ediv_of_nonneg _ (by decide)]; rfl
theorem tdn (a b : Nat) : (a : Int).tdiv (b : Int) = ((a / b : Nat) : Int) := by
  rw [Int.tdiv_eq_ediv_of_nonneg (by omega)]; rfl
theorem tmn (a b : Nat) : (a : Int).tmod (b : Int) = ((a % b : Nat) : Int) := by
  rw [Int.tmod_eq_emod_of_nonneg (by omega)]; rfl
theorem tm2 (a : Nat) : (a : Int).tmod 2 = ((a % 2 : Nat) : Int) := tmn a 2
theorem td2 (a : Nat) : (a : Int).tdiv 2 = ((a / 2 : Nat) : Int) := tdn a 2
theorem tm3 (a : Nat) : (a : Int).tmod 3 = ((a % 3 : Nat) : Int) := tmn a 3
theorem td3 (a : Nat) : (a : Int).tdiv 3 = ((a / 3 : Nat) : Int) := tdn a 3
theorem tm4 (a : Nat) : (a : Int).tmod 4 = ((a % 4 : Nat) : Int) := tmn a 4
theorem td4 (a : Nat) : (a : Int).tdiv 4 = ((a / 4 : Nat) : Int) := tdn a 4
theorem tm5 (a : Nat) : (a : Int).tmod 5 = ((a % 5 : Nat) : Int) := tmn a 5
theorem td5 (a : Nat) : (a : Int).tdiv 5 = ((a / 5 : Nat) : Int) := tdn a 5
theorem tm6 (a : Nat) : (a : Int).tmod 6 = ((a % 6 : Nat) : Int) := tmn a 6
theorem td6 (a : Nat) : (a : Int).tdiv 6 = ((a / 6 : Nat) : Int) := tdn a 6
theorem tm8 (a : Nat) : (a : Int).tmod 8 = ((a % 8 : Nat) : Int) := tmn a 8
theorem td8 (a : Nat) : (a : Int).tdiv 8 = ((a / 8 : Nat) : Int) := tdn a 8
theorem tm10 (a : Nat) : (a : Int).tmod 10 = ((a % 10 : Nat) : Int) := tmn a 10
theorem td10 (a : Nat) : (a : Int).tdiv 10 = ((a / 10 : Nat) : Int) := tdn a 10
theorem tm16 (a : Nat) : (a : Int).tmod 16 = ((a % 16 : Nat) : Int) := tmn a 16
theorem td16 (a : Nat) : (a : Int).tdiv 16 = ((a / 16 : Nat) : Int) := tdn a 16
theorem tm32 (a : Nat) : (a : Int).tmod 32 = ((a % 32 : Nat) : Int) := tmn a 32
theorem td32 (a : Nat) : (a : Int).tdiv 32 = ((a / 32 : Nat) : Int) := tdn a 32
theorem tm128 (a : Nat) : (a : Int).tmod 128 = ((a % 128 : Nat) : Int) := tmn a 128
theorem td128 (a : Nat) : (a : Int).tdiv 128 = ((a / 128 : Nat) : Int) := tdn a 128
theorem tm256 (a : Nat) : (a : Int).tmod 256 = ((a % 256 : Nat) : Int) := tmn a 256
theorem td256 (a : Nat) : (a : Int).tdiv 256 = ((a / 256 : Nat) : Int) := tdn a 256
theorem tm272 (a : Nat) : (a : Int).tmod 272 = ((a % 272 : Nat) : Int) := tmn a 272
theorem td272 (a : Nat) : (a : Int).tdiv 272 = ((a / 272 : Nat) : Int) := tdn a 272
theorem wu8m (a : Nat) : IntKind.u8.wrap (a : Int) = ((a % 256 : Nat) : Int) := by
  simp only [IntKind.wrap, IntKind.bits, IntKind.signed, Bool.false_and, Bool.false_eq_true, if_false]; omega
/-! ### Lists of registers: the library's rules once more, with a proof that a kernel need not find -/
section
variable {α β : Type} (a b : α) (l m : List α) (n : Nat)
theorem l_get0 : (a :: l)[0]? = some a := Eq.trans rfl rfl
theorem l_get : (a :: l)[n + 1]? = l[n]? := Eq.trans rfl rfl
theorem l_getn : ([] : List α)[n]? = none := Eq.trans rfl rfl
theorem l_set0 : (a :: l).set 0 b = b :: l := Eq.trans rfl rfl
theorem l_set : (a :: l).set (n + 1) b = a :: l.set n b := Eq.trans rfl rfl
theorem l_map (f : α → β) : (a :: l).map f = f a :: l.map f := Eq.trans rfl rfl
theorem l_map0 (f : α → β) : ([] : List α).map f = [] := Eq.trans rfl rfl
theorem l_app : (a :: l) ++ m = a :: (l ++ m) := Eq.trans rfl rfl
theorem l_app0 : [] ++ m = m := Eq.trans rfl rfl
theorem l_rep : List.replicate (n + 1) a = a :: List.replicate n a := Eq.trans rfl rfl
theorem l_rep0 : List.replicate 0 a = [] := Eq.trans rfl rfl
theorem o_bind (f : α → Option β) : (some a).bind f = f a := Eq.trans rfl rfl
theorem o_map (f : α → β) : (some a).map f = some (f a) := Eq.trans rfl rfl
theorem o_mapn (f : α → β) : (none : Option α).map f = none := Eq.trans rfl rfl
theorem c_t : cond true a b = a := Eq.trans rfl rfl
theorem c_f : cond false a b = b := Eq.trans rfl rfl
end
end Go.Am
