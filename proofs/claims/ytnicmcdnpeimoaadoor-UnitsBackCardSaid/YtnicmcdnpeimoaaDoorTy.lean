/-
  Facts on the types of this seat (printed by a program of ours).
-/
import Derived.Test.YtnicmcdnpeimoaaDoorCx
import Derived.Test.YtnicmcdnpeimoaaDoorAm21
set_option linter.unusedVariables false
set_option linter.unusedSimpArgs false
set_option maxRecDepth 100000
namespace Go.Proofs.YtnicmcdnpeimoaaDoor
open Go.Am
theorem sz3 : Am.sizeOf Tryd.prog 3 = some 1 := by kernel_rfl
theorem ag3 : Am.isAgg Tryd.prog 3 = some false := by kernel_rfl
theorem ld3 (H : Hp) (n g off : Nat) : Am.loadVar Tryd.prog H 3 n g off = sb (blk H n g) (ld1 off) := load_one H n g off ag3
theorem st3 (H : Hp) (n g off : Nat) (v : V) (hv : v.cells = some [v]) (h1 : v.one = true) : Am.storeVar Tryd.prog H 3 n g off v = sb (blk H n g) (st1 H n off v) := store_one H n g off v sz3 hv h1
theorem sz4 : Am.sizeOf Tryd.prog 4 = some 1 := by kernel_rfl
theorem ag4 : Am.isAgg Tryd.prog 4 = some false := by kernel_rfl
theorem ld4 (H : Hp) (n g off : Nat) : Am.loadVar Tryd.prog H 4 n g off = sb (blk H n g) (ld1 off) := load_one H n g off ag4
theorem st4 (H : Hp) (n g off : Nat) (v : V) (hv : v.cells = some [v]) (h1 : v.one = true) : Am.storeVar Tryd.prog H 4 n g off v = sb (blk H n g) (st1 H n off v) := store_one H n g off v sz4 hv h1
theorem sz5 : Am.sizeOf Tryd.prog 5 = some 1 := by kernel_rfl
theorem ag5 : Am.isAgg Tryd.prog 5 = some false := by kernel_rfl
theorem ld5 (H : Hp) (n g off : Nat) : Am.loadVar Tryd.prog H 5 n g off = sb (blk H n g) (ld1 off) := load_one H n g off ag5
theorem st5 (H : Hp) (n g off : Nat) (v : V) (hv : v.cells = some [v]) (h1 : v.one = true) : Am.storeVar Tryd.prog H 5 n g off v = sb (blk H n g) (st1 H n off v) := store_one H n g off v sz5 hv h1
theorem sz22 : Am.sizeOf Tryd.prog 22 = some 1 := by kernel_rfl
theorem ag22 : Am.isAgg Tryd.prog 22 = some false := by kernel_rfl
theorem ld22 (H : Hp) (n g off : Nat) : Am.loadVar Tryd.prog H 22 n g off = sb (blk H n g) (ld1 off) := load_one H n g off ag22
theorem st22 (H : Hp) (n g off : Nat) (v : V) (hv : v.cells = some [v]) (h1 : v.one = true) : Am.storeVar Tryd.prog H 22 n g off v = sb (blk H n g) (st1 H n off v) := store_one H n g off v sz22 hv h1
theorem sz26 : Am.sizeOf Tryd.prog 26 = some 1 := by kernel_rfl
theorem ag26 : Am.isAgg Tryd.prog 26 = some false := by kernel_rfl
theorem ld26 (H : Hp) (n g off : Nat) : Am.loadVar Tryd.prog H 26 n g off = sb (blk H n g) (ld1 off) := load_one H n g off ag26
theorem st26 (H : Hp) (n g off : Nat) (v : V) (hv : v.cells = some [v]) (h1 : v.one = true) : Am.storeVar Tryd.prog H 26 n g off v = sb (blk H n g) (st1 H n off v) := store_one H n g off v sz26 hv h1
theorem sz30 : Am.sizeOf Tryd.prog 30 = some 1 := by kernel_rfl
theorem ag30 : Am.isAgg Tryd.prog 30 = some false := by kernel_rfl
theorem ld30 (H : Hp) (n g off : Nat) : Am.loadVar Tryd.prog H 30 n g off = sb (blk H n g) (ld1 off) := load_one H n g off ag30
theorem st30 (H : Hp) (n g off : Nat) (v : V) (hv : v.cells = some [v]) (h1 : v.one = true) : Am.storeVar Tryd.prog H 30 n g off v = sb (blk H n g) (st1 H n off v) := store_one H n g off v sz30 hv h1
theorem sz81 : Am.sizeOf Tryd.prog 81 = some 1 := by kernel_rfl
theorem ag81 : Am.isAgg Tryd.prog 81 = some false := by kernel_rfl
theorem ld81 (H : Hp) (n g off : Nat) : Am.loadVar Tryd.prog H 81 n g off = sb (blk H n g) (ld1 off) := load_one H n g off ag81
theorem st81 (H : Hp) (n g off : Nat) (v : V) (hv : v.cells = some [v]) (h1 : v.one = true) : Am.storeVar Tryd.prog H 81 n g off v = sb (blk H n g) (st1 H n off v) := store_one H n g off v sz81 hv h1
theorem sz23 : Am.sizeOf Tryd.prog 23 = some 1 := by kernel_rfl
theorem ag23 : Am.isAgg Tryd.prog 23 = some false := by kernel_rfl
theorem ld23 (H : Hp) (n g off : Nat) : Am.loadVar Tryd.prog H 23 n g off = sb (blk H n g) (ld1 off) := load_one H n g off ag23
theorem st23 (H : Hp) (n g off : Nat) (v : V) (hv : v.cells = some [v]) (h1 : v.one = true) : Am.storeVar Tryd.prog H 23 n g off v = sb (blk H n g) (st1 H n off v) := store_one H n g off v sz23 hv h1
theorem ix23 (n g off len cap : Nat) (ex : Bool) {i : Int} (h0 : 0 ≤ i) (h1 : i < len) : vindexAddr Tryd.prog 23 (.sl n g off len cap ex 1) (.s (.int .i64 i)) = some (.ptr n g (off + i.toNat * 1)) := ix_sl Tryd.underlying23 sz5 n g off len cap ex h0 h1
theorem ln23 (H : Hp) (n g off len cap : Nat) (ex : Bool) (sz : Nat) : vbuiltin Tryd.prog H .len #[23] [.sl n g off len cap ex sz] = some (.s (.int .i64 len), H) := by
  simp [vbuiltin, vlen, Tryd.underlying23, I]
theorem ln23n (H : Hp) (n c : Nat) : vbuiltin Tryd.prog H .len #[23] [.s (.slice none n c)] = some (.s (.int .i64 n), H) := by
  simp [vbuiltin, vlen, Tryd.underlying23, I]
theorem cp23 (H : Hp) (n g off len cap : Nat) (sz : Nat) : vbuiltin Tryd.prog H .cap #[23] [.sl n g off len cap true sz] = some (.s (.int .i64 cap), H) := by
  simp [vbuiltin, vcap, Tryd.underlying23, I]
theorem cp23n (H : Hp) (n c : Nat) : vbuiltin Tryd.prog H .cap #[23] [.s (.slice none n c)] = some (.s (.int .i64 c), H) := by
  simp [vbuiltin, vcap, Tryd.underlying23, I]
theorem sz37 : Am.sizeOf Tryd.prog 37 = some 1 := by kernel_rfl
theorem ag37 : Am.isAgg Tryd.prog 37 = some false := by kernel_rfl
theorem ld37 (H : Hp) (n g off : Nat) : Am.loadVar Tryd.prog H 37 n g off = sb (blk H n g) (ld1 off) := load_one H n g off ag37
theorem st37 (H : Hp) (n g off : Nat) (v : V) (hv : v.cells = some [v]) (h1 : v.one = true) : Am.storeVar Tryd.prog H 37 n g off v = sb (blk H n g) (st1 H n off v) := store_one H n g off v sz37 hv h1
theorem ix37 (n g off len cap : Nat) (ex : Bool) {i : Int} (h0 : 0 ≤ i) (h1 : i < len) : vindexAddr Tryd.prog 37 (.sl n g off len cap ex 1) (.s (.int .i64 i)) = some (.ptr n g (off + i.toNat * 1)) := ix_sl Tryd.underlying37 sz23 n g off len cap ex h0 h1
theorem ln37 (H : Hp) (n g off len cap : Nat) (ex : Bool) (sz : Nat) : vbuiltin Tryd.prog H .len #[37] [.sl n g off len cap ex sz] = some (.s (.int .i64 len), H) := by
  simp [vbuiltin, vlen, Tryd.underlying37, I]
theorem ln37n (H : Hp) (n c : Nat) : vbuiltin Tryd.prog H .len #[37] [.s (.slice none n c)] = some (.s (.int .i64 n), H) := by
  simp [vbuiltin, vlen, Tryd.underlying37, I]
theorem cp37 (H : Hp) (n g off len cap : Nat) (sz : Nat) : vbuiltin Tryd.prog H .cap #[37] [.sl n g off len cap true sz] = some (.s (.int .i64 cap), H) := by
  simp [vbuiltin, vcap, Tryd.underlying37, I]
theorem cp37n (H : Hp) (n c : Nat) : vbuiltin Tryd.prog H .cap #[37] [.s (.slice none n c)] = some (.s (.int .i64 c), H) := by
  simp [vbuiltin, vcap, Tryd.underlying37, I]
theorem sz28 : Am.sizeOf Tryd.prog 28 = some 7 := by kernel_rfl
theorem ag28 : Am.isAgg Tryd.prog 28 = some true := by kernel_rfl
theorem ld28 (H : Hp) (n g off : Nat) : Am.loadVar Tryd.prog H 28 n g off = sb (blk H n g) (ldA off 7) := load_agg H n g off ag28 sz28
theorem st28 (H : Hp) (n g off : Nat) (vs : List V) (h1 : vs.all V.one = true) (hl : vs.length = 7) : Am.storeVar Tryd.prog H 28 n g off (.agg vs) = sb (blk H n g) (stA H n off vs) := store_agg H n g off sz28 h1 hl
theorem fa28_0 (n g off : Nat) : vfieldAddr Tryd.prog 28 (.ptr n g off) 0 = some (.ptr n g (off + 0)) := Eq.trans rfl rfl
theorem fa28_1 (n g off : Nat) : vfieldAddr Tryd.prog 28 (.ptr n g off) 1 = some (.ptr n g (off + 1)) := Eq.trans rfl rfl
theorem fa28_2 (n g off : Nat) : vfieldAddr Tryd.prog 28 (.ptr n g off) 2 = some (.ptr n g (off + 2)) := Eq.trans rfl rfl
theorem fa28_3 (n g off : Nat) : vfieldAddr Tryd.prog 28 (.ptr n g off) 3 = some (.ptr n g (off + 3)) := Eq.trans rfl rfl
theorem fa28_4 (n g off : Nat) : vfieldAddr Tryd.prog 28 (.ptr n g off) 4 = some (.ptr n g (off + 4)) := Eq.trans rfl rfl
theorem fa28_5 (n g off : Nat) : vfieldAddr Tryd.prog 28 (.ptr n g off) 5 = some (.ptr n g (off + 5)) := Eq.trans rfl rfl
theorem fa28_6 (n g off : Nat) : vfieldAddr Tryd.prog 28 (.ptr n g off) 6 = some (.ptr n g (off + 6)) := Eq.trans rfl rfl
theorem sz25 : Am.sizeOf Tryd.prog 25 = some 6 := by kernel_rfl
theorem ag25 : Am.isAgg Tryd.prog 25 = some true := by kernel_rfl
theorem ld25 (H : Hp) (n g off : Nat) : Am.loadVar Tryd.prog H 25 n g off = sb (blk H n g) (ldA off 6) := load_agg H n g off ag25 sz25
theorem st25 (H : Hp) (n g off : Nat) (vs : List V) (h1 : vs.all V.one = true) (hl : vs.length = 6) : Am.storeVar Tryd.prog H 25 n g off (.agg vs) = sb (blk H n g) (stA H n off vs) := store_agg H n g off sz25 h1 hl
theorem fa25_0 (n g off : Nat) : vfieldAddr Tryd.prog 25 (.ptr n g off) 0 = some (.ptr n g (off + 0)) := Eq.trans rfl rfl
theorem fa25_1 (n g off : Nat) : vfieldAddr Tryd.prog 25 (.ptr n g off) 1 = some (.ptr n g (off + 1)) := Eq.trans rfl rfl
theorem fa25_2 (n g off : Nat) : vfieldAddr Tryd.prog 25 (.ptr n g off) 2 = some (.ptr n g (off + 2)) := Eq.trans rfl rfl
theorem fa25_3 (n g off : Nat) : vfieldAddr Tryd.prog 25 (.ptr n g off) 3 = some (.ptr n g (off + 3)) := Eq.trans rfl rfl
theorem fa25_4 (n g off : Nat) : vfieldAddr Tryd.prog 25 (.ptr n g off) 4 = some (.ptr n g (off + 4)) := Eq.trans rfl rfl
theorem fa25_5 (n g off : Nat) : vfieldAddr Tryd.prog 25 (.ptr n g off) 5 = some (.ptr n g (off + 5)) := Eq.trans rfl rfl
theorem sz58 : Am.sizeOf Tryd.prog 58 = some 7 := by kernel_rfl
theorem ag58 : Am.isAgg Tryd.prog 58 = some true := by kernel_rfl
theorem ld58 (H : Hp) (n g off : Nat) : Am.loadVar Tryd.prog H 58 n g off = sb (blk H n g) (ldA off 7) := load_agg H n g off ag58 sz58
theorem st58 (H : Hp) (n g off : Nat) (vs : List V) (h1 : vs.all V.one = true) (hl : vs.length = 7) : Am.storeVar Tryd.prog H 58 n g off (.agg vs) = sb (blk H n g) (stA H n off vs) := store_agg H n g off sz58 h1 hl
theorem fa58_0 (n g off : Nat) : vfieldAddr Tryd.prog 58 (.ptr n g off) 0 = some (.ptr n g (off + 0)) := Eq.trans rfl rfl
theorem fa58_1 (n g off : Nat) : vfieldAddr Tryd.prog 58 (.ptr n g off) 1 = some (.ptr n g (off + 1)) := Eq.trans rfl rfl
theorem fa58_2 (n g off : Nat) : vfieldAddr Tryd.prog 58 (.ptr n g off) 2 = some (.ptr n g (off + 2)) := Eq.trans rfl rfl
theorem fa58_3 (n g off : Nat) : vfieldAddr Tryd.prog 58 (.ptr n g off) 3 = some (.ptr n g (off + 3)) := Eq.trans rfl rfl
theorem fa58_4 (n g off : Nat) : vfieldAddr Tryd.prog 58 (.ptr n g off) 4 = some (.ptr n g (off + 4)) := Eq.trans rfl rfl
theorem fa58_5 (n g off : Nat) : vfieldAddr Tryd.prog 58 (.ptr n g off) 5 = some (.ptr n g (off + 5)) := Eq.trans rfl rfl
theorem fa58_6 (n g off : Nat) : vfieldAddr Tryd.prog 58 (.ptr n g off) 6 = some (.ptr n g (off + 6)) := Eq.trans rfl rfl
theorem sz82 : Am.sizeOf Tryd.prog 82 = some 16 := by kernel_rfl
theorem ag82 : Am.isAgg Tryd.prog 82 = some true := by kernel_rfl
theorem ld82 (H : Hp) (n g off : Nat) : Am.loadVar Tryd.prog H 82 n g off = sb (blk H n g) (ldA off 16) := load_agg H n g off ag82 sz82
theorem st82 (H : Hp) (n g off : Nat) (vs : List V) (h1 : vs.all V.one = true) (hl : vs.length = 16) : Am.storeVar Tryd.prog H 82 n g off (.agg vs) = sb (blk H n g) (stA H n off vs) := store_agg H n g off sz82 h1 hl
theorem ix82 (n g off : Nat) (k : IntKind) {i : Int} (h0 : 0 ≤ i) (h1 : i < 16) : vindexAddr Tryd.prog 82 (.ptr n g off) (.s (.int k i)) = some (.ptr n g (off + i.toNat * 1)) := by
  simp only [vindexAddr, asInt, Option.bind_some, Tryd.underlying82, sz22]
  exact if_pos ⟨h0, h1⟩
theorem sz72 : Am.sizeOf Tryd.prog 72 = some 8 := by kernel_rfl
theorem ag72 : Am.isAgg Tryd.prog 72 = some true := by kernel_rfl
theorem ld72 (H : Hp) (n g off : Nat) : Am.loadVar Tryd.prog H 72 n g off = sb (blk H n g) (ldA off 8) := load_agg H n g off ag72 sz72
theorem st72 (H : Hp) (n g off : Nat) (vs : List V) (h1 : vs.all V.one = true) (hl : vs.length = 8) : Am.storeVar Tryd.prog H 72 n g off (.agg vs) = sb (blk H n g) (stA H n off vs) := store_agg H n g off sz72 h1 hl
theorem ix72 (n g off : Nat) (k : IntKind) {i : Int} (h0 : 0 ≤ i) (h1 : i < 8) : vindexAddr Tryd.prog 72 (.ptr n g off) (.s (.int k i)) = some (.ptr n g (off + i.toNat * 1)) := by
  simp only [vindexAddr, asInt, Option.bind_some, Tryd.underlying72, sz5]
  exact if_pos ⟨h0, h1⟩
theorem cv81_5 (H : Hp) (k : IntKind) (x : Int) : vconv Tryd.prog H 81 5 (.s (.int k x)) = some (.s (.int .u8 (IntKind.wrap .u8 x))) := by
  simp [vconv, Tryd.underlying81, Tryd.underlying5]
theorem cv5_81 (H : Hp) (k : IntKind) (x : Int) : vconv Tryd.prog H 5 81 (.s (.int k x)) = some (.s (.int .u64 (IntKind.wrap .u64 x))) := by
  simp [vconv, Tryd.underlying5, Tryd.underlying81]
theorem cv5_3 (H : Hp) (k : IntKind) (x : Int) : vconv Tryd.prog H 5 3 (.s (.int k x)) = some (.s (.int .i64 (IntKind.wrap .i64 x))) := by
  simp [vconv, Tryd.underlying5, Tryd.underlying3]
theorem cv3_5 (H : Hp) (k : IntKind) (x : Int) : vconv Tryd.prog H 3 5 (.s (.int k x)) = some (.s (.int .u8 (IntKind.wrap .u8 x))) := by
  simp [vconv, Tryd.underlying3, Tryd.underlying5]
theorem cv22_3 (H : Hp) (k : IntKind) (x : Int) : vconv Tryd.prog H 22 3 (.s (.int k x)) = some (.s (.int .i64 (IntKind.wrap .i64 x))) := by
  simp [vconv, Tryd.underlying22, Tryd.underlying3]
theorem cv22_5 (H : Hp) (k : IntKind) (x : Int) : vconv Tryd.prog H 22 5 (.s (.int k x)) = some (.s (.int .u8 (IntKind.wrap .u8 x))) := by
  simp [vconv, Tryd.underlying22, Tryd.underlying5]
theorem cv5_22 (H : Hp) (k : IntKind) (x : Int) : vconv Tryd.prog H 5 22 (.s (.int k x)) = some (.s (.int .u16 (IntKind.wrap .u16 x))) := by
  simp [vconv, Tryd.underlying5, Tryd.underlying22]
theorem cv3_22 (H : Hp) (k : IntKind) (x : Int) : vconv Tryd.prog H 3 22 (.s (.int k x)) = some (.s (.int .u16 (IntKind.wrap .u16 x))) := by
  simp [vconv, Tryd.underlying3, Tryd.underlying22]
end Go.Proofs.YtnicmcdnpeimoaaDoor
