import Derived.Test.YtmenfbfekfljbaaSlices
namespace Go.Proofs.Ytmenfbfekfljbaa
open Go.RowKit

/-! ### pairs of names: [2]ID -/
def pairL (p : ID × ID) : List Value := idL p.1 ++ idL p.2
@[go_sem, simp] theorem pairL_length (p : ID × ID) : (pairL p).length = 64 := by simp [pairL]
@[go_sem] theorem pairL_one (p : ID × ID) : allOne (pairL p).toArray = true := by
  simp only [allOne, List.all_eq_true]
  intro v hv
  simp only [pairL, List.mem_append] at hv
  rcases hv with h | h <;> exact idL_one' _ _ h
@[go_sem] theorem pairL_fst (p : ID × ID) : subA (pairL p).toArray 0 32 = (idL p.1).toArray := by
  rw [subA_list]
  congr 1
  exact List.take_left' (idL_length _)
@[go_sem] theorem pairL_snd (p : ID × ID) : subA (pairL p).toArray 32 32 = (idL p.2).toArray := by
  rw [subA_list]
  congr 1
  rw [pairL, List.drop_left' (idL_length _), List.take_of_length_le (by simp)]
theorem pairL_inj {p q : ID × ID} (h : pairL p = pairL q) : p = q := by
  unfold pairL at h
  obtain ⟨h1, h2⟩ := List.append_inj h (by simp)
  exact Prod.ext (idL_inj h1) (idL_inj h2)
theorem info59 : (Try.prog.info? 59).map (fun i => (i.zero, i.size, i.bytes)) = some (some (.agg (pairL (ID.zero, ID.zero)).toArray), 64, 64) := by kernel_rfl
@[go_sem ↓] theorem hide_load59 (a : Addr) : loadVar 59 a = loadAgg 59 a := rfl
@[go_sem ↓] theorem hide_store59 (a : Addr) (v : Value) : storeVar 59 a v = storeAgg 59 a v := rfl
@[go_sem] theorem run_load59 (b off : Nat) (W : World) : (loadAgg 59 ⟨b, off, none⟩).run Try.prog W = loadRes Try.prog 59 ⟨b, off, none⟩ W (subOf (obj W b) off 64) := run_loadAgg Try.isAgg59 Try.sizeOf59 b off W
@[go_sem] theorem run_store59 (b off : Nat) (cs : Array Value) (W : World) : (storeAgg 59 ⟨b, off, none⟩ (.agg cs)).run Try.prog W = storeRes Try.prog 59 ⟨b, off, none⟩ (.agg cs) W (putOf (obj W b) off 64 cs) := run_storeAgg Try.sizeOf59 b off cs W
@[go_sem ↓] theorem zero59 (w : World) : (zeroValue 59).run Try.prog w = .ok (.agg (pairL (ID.zero, ID.zero)).toArray) w := by kernel_rfl
@[go_sem ↓] theorem hide_build59 (ps : Array (Nat × Value)) : Instr.build 59 ps = buildAgg 59 ps := rfl
@[go_sem ↓] theorem hide_row51 (n : Nat) (ps : Array (Nat × Value)) : Instr.buildSlice 51 n ps = buildRow 51 n ps := rfl
@[go_sem] theorem run_one51 (p : ID × ID) (w : World) : (buildRow 51 1 #[(0, .agg (pairL p).toArray)]).run Try.prog w = .ok (.slice (some ⟨w.heap.size, 0, none⟩) 1 1) (w.alloc (.cells (pairL p).toArray 59)) := by
  obtain ⟨i0, hi, hz0, hz1, hz2⟩ := info_parts info59
  exact run_buildOne Try.underlying51 hi hz0 hz1 (by decide) (by decide) _ (by simp) w
@[go_sem] theorem run_pair59 (a b : ID) (w : World) : (buildAgg 59 #[(0, .agg (idL a).toArray), (1, .agg (idL b).toArray)]).run Try.prog w = .ok (.agg (pairL (a, b)).toArray) w := by
  have hf : Instr.fill (fun i => some (i * 32, 32)) (pairL (ID.zero, ID.zero)).toArray [(0, .agg (idL a).toArray), (1, .agg (idL b).toArray)] = some (pairL (a, b)).toArray := by
    rw [fill_agg (place := fun i => some (i * 32, 32)) (off := 0) (n := 32) (v := .agg (idL a).toArray) rfl (by simp [Value.cells]) (by simp)]
    rw [fill_agg (place := fun i => some (i * 32, 32)) (off := 32) (n := 32) (v := .agg (idL b).toArray) rfl (by simp [Value.cells]) (by rw [size_spliceA (by simp [Value.cells])]; simp)]
    simp only [Instr.fill, Value.cells]
    congr 1
    simp only [spliceA, List.take_zero, List.nil_append, Nat.zero_add, idL_length]
    rw [show (pairL (ID.zero, ID.zero)).drop 32 = idL ID.zero from List.drop_left' (idL_length _)]
    rw [List.take_left' (idL_length _), List.drop_eq_nil_of_le (by simp), List.append_nil]
    rfl
  unfold buildAgg Instr.build
  simp only [Sem.run_bind, zero59, Result.andThen_ok, run_underlying Try.underlying59, Try.sizeOf45, Value.cells, hf, Sem.run_pure]
/-- append of a pair -/
theorem push59 {ops : Array Oper} {rest : List Oper} {o : Oper} {a : Act} {w : World} {Q : Exit → Act → World → Prop} (hgd : o.guard = none) (s x : Operand) (ho : o.op = .call { callee := .builtin .append, args := #[s, x], argTypes := #[51, 51] })
    (base : Nat) (v : Value) (xs : List (ID × ID)) (y : ID × ID) (hs : a.eval s = v) (hown : OwnS w base 59 64 pairL v xs) (g : Nat) (hx : a.eval x = .slice (some ⟨g, 0, none⟩) 1 1) (hg : obj w g = some (.cells (pairL y).toArray 59 (0, 0)))
    (hlen : xs.length ≤ 1048576) (hbase : base ≤ w.heap.size)
    (h : ∀ v' w', OwnS w' base 59 64 pairL v' (xs ++ [y]) → Below base w w' → (∀ k, k < w.heap.size → v.ownBlock ≠ some k → obj w' k = obj w k) → wpList Try.prog ops Q rest (a.put o.dst v') w') : wpList Try.prog ops Q (o :: rest) a w := by
  obtain ⟨i0, hi, hz0, hz1, hz2⟩ := info_parts info59
  exact wpList_push Try.underlying51 hi hz0 hz1 hz2 (by simp [Value.cells]) (by decide) pairL pairL_length pairL_one hgd s x ho base v xs y hs hown g hx hg hlen (by decide) hbase h
theorem run_eqlFuncNil (w : World) (f : Fn) (x y : Array Value) : (binOp .eql 63 (.func f x y) .nilFunc).run Try.prog w = .ok (.bool false) w := by
  have h : ∀ d : Nat, (Op.equalIn (d + 1) 63 (.func f x y) .nilFunc).run Try.prog w = .ok false w := fun d => by
    simp [Op.equalIn, run_underlying Try.underlying63]
  simp only [binOp]
  simp [Op.equal, Op.maxDepth, h 9999]
end Go.Proofs.Ytmenfbfekfljbaa
