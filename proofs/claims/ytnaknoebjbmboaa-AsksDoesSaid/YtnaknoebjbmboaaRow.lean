import Derived.Test.YtnaknoebjbmboaaAsks4
import Derived.Test.YtnaknoebjbmboaaRange
import Derived.LoopTactic
namespace Go.Proofs.Ytnaknoebjbmboaa
open Go.RowKit

/-! ### asks: three cells, as one step -/
@[go_sem ↓] theorem hide_load32 (a : Addr) : loadVar 32 a = loadAgg 32 a := rfl
@[go_sem ↓] theorem hide_store32 (a : Addr) (v : Value) : storeVar 32 a v = storeAgg 32 a v := rfl
@[go_sem] theorem run_load32 (b off : Nat) (W : World) : (loadAgg 32 ⟨b, off, none⟩).run Try.prog W = loadRes Try.prog 32 ⟨b, off, none⟩ W (subOf (obj W b) off 3) := run_loadAgg Try.isAgg32 Try.sizeOf32 b off W
@[go_sem] theorem run_store32 (b off : Nat) (cs : Array Value) (W : World) : (storeAgg 32 ⟨b, off, none⟩ (.agg cs)).run Try.prog W = storeRes Try.prog 32 ⟨b, off, none⟩ (.agg cs) W (putOf (obj W b) off 3 cs) := run_storeAgg Try.sizeOf32 b off cs W
@[reducible] def akL (a : AskD) : List Value := [.int .i64 a.id, .int .i64 a.node, .int .i64 a.kind]
@[reducible] def akV (a : AskD) : Value := .agg #[.int .i64 a.id, .int .i64 a.node, .int .i64 a.kind]
theorem akL_length (a : AskD) : (akL a).length = 3 := rfl
theorem akL_one (a : AskD) : allOne (akL a).toArray = true := rfl
theorem info32 : (Try.prog.info? 32).map (fun i => (i.zero, i.size, i.bytes)) = some (some (.agg #[.int .i64 0, .int .i64 0, .int .i64 0]), 3, 24) := by kernel_rfl
end Go.Proofs.Ytnaknoebjbmboaa
