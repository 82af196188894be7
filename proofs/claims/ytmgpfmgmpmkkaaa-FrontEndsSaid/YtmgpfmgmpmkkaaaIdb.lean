import Derived.Test.YtmgpfmgmpmkkaaaPlain
import Derived.Test.YtmgpfmgmpmkkaaaWide
import Derived.LoopTactic
namespace Go.Proofs.Ytmgpfmgmpmkkaaa
open Go.RowKit

/-! ### loads and stores of names as one step -/
@[go_sem ↓] theorem hide_load45 (a : Addr) : loadVar 45 a = loadAgg 45 a := rfl
@[go_sem ↓] theorem hide_store45 (a : Addr) (v : Value) : storeVar 45 a v = storeAgg 45 a v := rfl
@[go_sem] theorem run_load45 (b off : Nat) (W : World) : (loadAgg 45 ⟨b, off, none⟩).run Try.prog W = loadRes Try.prog 45 ⟨b, off, none⟩ W (subOf (obj W b) off 32) := run_loadAgg Try.isAgg45 Try.sizeOf45 b off W
@[go_sem] theorem run_store45 (b off : Nat) (cs : Array Value) (W : World) : (storeAgg 45 ⟨b, off, none⟩ (.agg cs)).run Try.prog W = storeRes Try.prog 45 ⟨b, off, none⟩ (.agg cs) W (putOf (obj W b) off 32 cs) := run_storeAgg Try.sizeOf45 b off cs W
@[go_sem ↓] theorem zero45 (w : World) : (zeroValue 45).run Try.prog w = .ok (.agg (idL ID.zero).toArray) w := by kernel_rfl
theorem info45 : (Try.prog.info? 45).map (fun i => (i.zero, i.size, i.bytes)) = some (some (.agg (idL ID.zero).toArray), 32, 32) := by kernel_rfl
theorem info5 : (Try.prog.info? 5).map (fun i => (i.zero, i.size, i.bytes)) = some (some (.int .u8 0), 1, 1) := by kernel_rfl
@[go_sem ↓] theorem hide_row26 (n : Nat) (ps : Array (Nat × Value)) : Instr.buildSlice 26 n ps = buildRow 26 n ps := rfl
@[go_sem] theorem run_one26 (a : ID) (w : World) : (buildRow 26 1 #[(0, .agg (idL a).toArray)]).run Try.prog w = .ok (.slice (some ⟨w.heap.size, 0, none⟩) 1 1) (w.alloc (.cells (idL a).toArray 45)) := by
  obtain ⟨i0, hi, hz0, hz1, hz2⟩ := info_parts info45
  exact run_buildOne Try.underlying26 hi hz0 hz1 (by decide) (by decide) _ (by simp) w
theorem push26 {ops : Array Oper} {rest : List Oper} {o : Oper} {a : Act} {w : World} {Q : Exit → Act → World → Prop} (hgd : o.guard = none) (s x : Operand) (ho : o.op = .call { callee := .builtin .append, args := #[s, x], argTypes := #[26, 26] })
    (base : Nat) (v : Value) (xs : List ID) (y : ID) (hs : a.eval s = v) (hown : OwnS w base 45 32 idL v xs) (g : Nat) (hx : a.eval x = .slice (some ⟨g, 0, none⟩) 1 1) (hg : obj w g = some (.cells (idL y).toArray 45 (0, 0)))
    (hlen : xs.length ≤ 1048576) (hbase : base ≤ w.heap.size)
    (h : ∀ v' w', OwnS w' base 45 32 idL v' (xs ++ [y]) → Below base w w' → (∀ k, k < w.heap.size → v.ownBlock ≠ some k → obj w' k = obj w k) → wpList Try.prog ops Q rest (a.put o.dst v') w') : wpList Try.prog ops Q (o :: rest) a w := by
  obtain ⟨i0, hi, hz0, hz1, hz2⟩ := info_parts info45
  exact wpList_push Try.underlying26 hi hz0 hz1 hz2 (by simp [Value.cells]) (by decide) idL idL_length idL_one hgd s x ho base v xs y hs hown g hx hg hlen (by decide) hbase h
@[go_sem] theorem run_eql45 (d : Nat) (a b : ID) (w : World) : (Op.equalIn (d + 2) 45 (.agg (idL a).toArray) (.agg (idL b).toArray)).run Try.prog w = .ok (decide (a = b)) w := by
  obtain ⟨ie, hi, _⟩ := info_parts info5
  exact run_equalIn_id d Try.underlying45 hi (by kernel_rfl) Try.underlying5 Try.isAgg5 a b w
theorem keyOK45 : KeyOK Try.prog 45 idV := by
  obtain ⟨ie, hi, _⟩ := info_parts info5
  exact keyOK_id Try.underlying45 hi (by kernel_rfl) Try.underlying5 Try.isAgg5 Try.sizeOf5
@[go_sem ↓] theorem hide_build45 (ps : Array (Nat × Value)) : Instr.build 45 ps = buildAgg 45 ps := rfl
@[go_sem] theorem run_build45_nil (w : World) : (buildAgg 45 #[]).run Try.prog w = .ok (.agg (idL ID.zero).toArray) w := by kernel_rfl
end Go.Proofs.Ytmgpfmgmpmkkaaa
