import Derived.Test.YtmgpfmgmpmkkaaaGreatPlain
import Derived.Test.YtmgpfmgmpmkkaaaGreatWide
import Derived.LoopTactic
namespace Go.Proofs.YtmgpfmgmpmkkaaaGreat
open Go.RowKit

/-! ### loads and stores of names as one step -/
@[go_sem ↓] theorem hide_load45 (a : Addr) : loadVar 32 a = loadAgg 32 a := rfl
@[go_sem ↓] theorem hide_store45 (a : Addr) (v : Value) : storeVar 32 a v = storeAgg 32 a v := rfl
@[go_sem] theorem run_load45 (b off : Nat) (W : World) : (loadAgg 32 ⟨b, off, none⟩).run Tryz.prog W = loadRes Tryz.prog 32 ⟨b, off, none⟩ W (subOf (obj W b) off 32) := run_loadAgg Tryz.isAgg32 Tryz.sizeOf32 b off W
@[go_sem] theorem run_store45 (b off : Nat) (cs : Array Value) (W : World) : (storeAgg 32 ⟨b, off, none⟩ (.agg cs)).run Tryz.prog W = storeRes Tryz.prog 32 ⟨b, off, none⟩ (.agg cs) W (putOf (obj W b) off 32 cs) := run_storeAgg Tryz.sizeOf32 b off cs W
@[go_sem ↓] theorem zero45 (w : World) : (zeroValue 32).run Tryz.prog w = .ok (.agg (idL ID.zero).toArray) w := by kernel_rfl
theorem info45 : (Tryz.prog.info? 32).map (fun i => (i.zero, i.size, i.bytes)) = some (some (.agg (idL ID.zero).toArray), 32, 32) := by kernel_rfl
theorem info5 : (Tryz.prog.info? 5).map (fun i => (i.zero, i.size, i.bytes)) = some (some (.int .u8 0), 1, 1) := by kernel_rfl
@[go_sem ↓] theorem hide_row26 (n : Nat) (ps : Array (Nat × Value)) : Instr.buildSlice 24 n ps = buildRow 24 n ps := rfl
@[go_sem] theorem run_one26 (a : ID) (w : World) : (buildRow 24 1 #[(0, .agg (idL a).toArray)]).run Tryz.prog w = .ok (.slice (some ⟨w.heap.size, 0, none⟩) 1 1) (w.alloc (.cells (idL a).toArray 32)) := by
  obtain ⟨i0, hi, hz0, hz1, hz2⟩ := info_parts info45
  exact run_buildOne Tryz.underlying24 hi hz0 hz1 (by decide) (by decide) _ (by simp) w
theorem push26 {ops : Array Oper} {rest : List Oper} {o : Oper} {a : Act} {w : World} {Q : Exit → Act → World → Prop} (hgd : o.guard = none) (s x : Operand) (ho : o.op = .call { callee := .builtin .append, args := #[s, x], argTypes := #[24, 24] })
    (base : Nat) (v : Value) (xs : List ID) (y : ID) (hs : a.eval s = v) (hown : OwnS w base 32 32 idL v xs) (g : Nat) (hx : a.eval x = .slice (some ⟨g, 0, none⟩) 1 1) (hg : obj w g = some (.cells (idL y).toArray 32 (0, 0)))
    (hlen : xs.length ≤ 1048576) (hbase : base ≤ w.heap.size)
    (h : ∀ v' w', OwnS w' base 32 32 idL v' (xs ++ [y]) → Below base w w' → (∀ k, k < w.heap.size → v.ownBlock ≠ some k → obj w' k = obj w k) → wpList Tryz.prog ops Q rest (a.put o.dst v') w') : wpList Tryz.prog ops Q (o :: rest) a w := by
  obtain ⟨i0, hi, hz0, hz1, hz2⟩ := info_parts info45
  exact wpList_push Tryz.underlying24 hi hz0 hz1 hz2 (by simp [Value.cells]) (by decide) idL idL_length idL_one hgd s x ho base v xs y hs hown g hx hg hlen (by decide) hbase h
@[go_sem] theorem run_eql45 (d : Nat) (a b : ID) (w : World) : (Op.equalIn (d + 2) 32 (.agg (idL a).toArray) (.agg (idL b).toArray)).run Tryz.prog w = .ok (decide (a = b)) w := by
  obtain ⟨ie, hi, _⟩ := info_parts info5
  exact run_equalIn_id d Tryz.underlying32 hi (by kernel_rfl) Tryz.underlying5 Tryz.isAgg5 a b w
theorem keyOK32 : KeyOK Tryz.prog 32 idV := by
  obtain ⟨ie, hi, _⟩ := info_parts info5
  exact keyOK_id Tryz.underlying32 hi (by kernel_rfl) Tryz.underlying5 Tryz.isAgg5 Tryz.sizeOf5
@[go_sem ↓] theorem hide_build45 (ps : Array (Nat × Value)) : Instr.build 32 ps = buildAgg 32 ps := rfl
@[go_sem] theorem run_build45_nil (w : World) : (buildAgg 32 #[]).run Tryz.prog w = .ok (.agg (idL ID.zero).toArray) w := by kernel_rfl
end Go.Proofs.YtmgpfmgmpmkkaaaGreat
