import Derived.Test.YtmenfbfekfljbaaWide
import Derived.LoopTactic
namespace Go.Proofs.Ytmenfbfekfljbaa
open Go.RowKit

/-! ### loads and stores of names and facts as one step -/
@[go_sem ↓] theorem hide_load45 (a : Addr) : loadVar 45 a = loadAgg 45 a := rfl
@[go_sem ↓] theorem hide_load54 (a : Addr) : loadVar 54 a = loadAgg 54 a := rfl
@[go_sem ↓] theorem hide_store45 (a : Addr) (v : Value) : storeVar 45 a v = storeAgg 45 a v := rfl
@[go_sem ↓] theorem hide_store54 (a : Addr) (v : Value) : storeVar 54 a v = storeAgg 54 a v := rfl
@[go_sem] theorem run_load45 (b off : Nat) (W : World) : (loadAgg 45 ⟨b, off, none⟩).run Try.prog W = loadRes Try.prog 45 ⟨b, off, none⟩ W (subOf (obj W b) off 32) := run_loadAgg Try.isAgg45 Try.sizeOf45 b off W
@[go_sem] theorem run_load54 (b off : Nat) (W : World) : (loadAgg 54 ⟨b, off, none⟩).run Try.prog W = loadRes Try.prog 54 ⟨b, off, none⟩ W (subOf (obj W b) off 72) := run_loadAgg Try.isAgg54 Try.sizeOf54 b off W
@[go_sem] theorem run_store45 (b off : Nat) (cs : Array Value) (W : World) : (storeAgg 45 ⟨b, off, none⟩ (.agg cs)).run Try.prog W = storeRes Try.prog 45 ⟨b, off, none⟩ (.agg cs) W (putOf (obj W b) off 32 cs) := run_storeAgg Try.sizeOf45 b off cs W
@[go_sem] theorem run_store54 (b off : Nat) (cs : Array Value) (W : World) : (storeAgg 54 ⟨b, off, none⟩ (.agg cs)).run Try.prog W = storeRes Try.prog 54 ⟨b, off, none⟩ (.agg cs) W (putOf (obj W b) off 72 cs) := run_storeAgg Try.sizeOf54 b off cs W

structure SlD where
  a : Option Addr
  len : Nat
  cap : Nat
def slV (s : SlD) : Value := .slice s.a s.len s.cap
structure FactD where
  move : Int
  kind : Int
  node : Int
  to : Int
  id : ID
  other : ID
  height : Int
  poll : Int
  slots : SlD
  votes : SlD
def factL (x : FactD) : List Value :=
  [.int .i64 x.move, .int .i64 x.kind, .int .i64 x.node, .int .i64 x.to] ++ (idL x.id ++ (idL x.other ++ [.int .i64 x.height, .int .i64 x.poll, slV x.slots, slV x.votes]))
section
variable (x : FactD)
@[go_sem, simp] theorem factL_length : (factL x).length = 72 := by simp [factL]
@[go_sem] theorem factL_one : allOne (factL x).toArray = true := by
  simp only [allOne, List.all_eq_true]
  intro v hv
  simp only [factL, List.mem_append, List.mem_cons, List.not_mem_nil, or_false] at hv
  rcases hv with (rfl | rfl | rfl | rfl) | h | h | rfl | rfl | rfl | rfl <;> first | rfl | exact idL_one' _ _ h
@[go_sem] theorem factL_0 : (factL x)[0]? = some (.int .i64 x.move) := rfl
@[go_sem] theorem factL_1 : (factL x)[1]? = some (.int .i64 x.kind) := rfl
@[go_sem] theorem factL_2 : (factL x)[2]? = some (.int .i64 x.node) := rfl
@[go_sem] theorem factL_3 : (factL x)[3]? = some (.int .i64 x.to) := rfl
theorem factL_tail (i : Nat) : (factL x)[68 + i]? = [Value.int .i64 x.height, .int .i64 x.poll, slV x.slots, slV x.votes][i]? := by
  unfold factL
  rw [List.getElem?_append_right (by simp; omega), List.getElem?_append_right (by simp; omega), List.getElem?_append_right (by simp; omega)]
  simp only [List.length_cons, List.length_nil, idL_length]
  congr 1
  omega
@[go_sem] theorem factL_68 : (factL x)[68]? = some (.int .i64 x.height) := factL_tail x 0
@[go_sem] theorem factL_69 : (factL x)[69]? = some (.int .i64 x.poll) := factL_tail x 1
@[go_sem] theorem factL_70 : (factL x)[70]? = some (.slice x.slots.a x.slots.len x.slots.cap) := factL_tail x 2
@[go_sem] theorem factL_71 : (factL x)[71]? = some (.slice x.votes.a x.votes.len x.votes.cap) := factL_tail x 3
@[go_sem] theorem factL_g0 (h : 0 < (factL x).length) : (factL x)[0]'h = .int .i64 x.move := Option.some.inj ((List.getElem?_eq_getElem h).symm.trans (factL_0 x))
@[go_sem] theorem factL_g1 (h : 1 < (factL x).length) : (factL x)[1]'h = .int .i64 x.kind := Option.some.inj ((List.getElem?_eq_getElem h).symm.trans (factL_1 x))
@[go_sem] theorem factL_g2 (h : 2 < (factL x).length) : (factL x)[2]'h = .int .i64 x.node := Option.some.inj ((List.getElem?_eq_getElem h).symm.trans (factL_2 x))
@[go_sem] theorem factL_g3 (h : 3 < (factL x).length) : (factL x)[3]'h = .int .i64 x.to := Option.some.inj ((List.getElem?_eq_getElem h).symm.trans (factL_3 x))
@[go_sem] theorem factL_g68 (h : 68 < (factL x).length) : (factL x)[68]'h = .int .i64 x.height := Option.some.inj ((List.getElem?_eq_getElem h).symm.trans (factL_68 x))
@[go_sem] theorem factL_g69 (h : 69 < (factL x).length) : (factL x)[69]'h = .int .i64 x.poll := Option.some.inj ((List.getElem?_eq_getElem h).symm.trans (factL_69 x))
@[go_sem] theorem factL_g70 (h : 70 < (factL x).length) : (factL x)[70]'h = .slice x.slots.a x.slots.len x.slots.cap := Option.some.inj ((List.getElem?_eq_getElem h).symm.trans (factL_70 x))
@[go_sem] theorem factL_g71 (h : 71 < (factL x).length) : (factL x)[71]'h = .slice x.votes.a x.votes.len x.votes.cap := Option.some.inj ((List.getElem?_eq_getElem h).symm.trans (factL_71 x))
@[go_sem] theorem factL_id : subA (factL x).toArray 4 32 = (idL x.id).toArray := by
  rw [subA_list]
  congr 1
  exact List.take_left' (idL_length _)
@[go_sem] theorem factL_other : subA (factL x).toArray 36 32 = (idL x.other).toArray := by
  rw [subA_list]
  congr 1
  have : (factL x).drop 36 = idL x.other ++ [.int .i64 x.height, .int .i64 x.poll, slV x.slots, slV x.votes] := by
    exact (List.drop_left' (idL_length x.id) : (idL x.id ++ (idL x.other ++ [.int .i64 x.height, .int .i64 x.poll, slV x.slots, slV x.votes])).drop 32 = _)
  rw [this]
  exact List.take_left' (idL_length _)
end

def FactD.zero : FactD := ⟨0, 0, 0, 0, ID.zero, ID.zero, 0, 0, ⟨none, 0, 0⟩, ⟨none, 0, 0⟩⟩
instance : Inhabited FactD := ⟨FactD.zero⟩
@[go_sem ↓] theorem zero45 (w : World) : (zeroValue 45).run Try.prog w = .ok (.agg (idL ID.zero).toArray) w := by kernel_rfl
@[go_sem ↓] theorem zero54 (w : World) : (zeroValue 54).run Try.prog w = .ok (.agg (factL FactD.zero).toArray) w := by kernel_rfl
theorem info45 : (Try.prog.info? 45).map (fun i => (i.zero, i.size, i.bytes)) = some (some (.agg (idL ID.zero).toArray), 32, 32) := by kernel_rfl
@[go_sem ↓] theorem hide_row43 (n : Nat) (ps : Array (Nat × Value)) : Instr.buildSlice 43 n ps = buildRow 43 n ps := rfl
@[go_sem] theorem run_one43 (a : ID) (w : World) : (buildRow 43 1 #[(0, .agg (idL a).toArray)]).run Try.prog w = .ok (.slice (some ⟨w.heap.size, 0, none⟩) 1 1) (w.alloc (.cells (idL a).toArray 45)) := by
  obtain ⟨i0, hi, hz0, hz1, hz2⟩ := info_parts info45
  exact run_buildOne Try.underlying43 hi hz0 hz1 (by decide) (by decide) _ (by simp) w
/-- append of a name -/
theorem push45 {ops : Array Oper} {rest : List Oper} {o : Oper} {a : Act} {w : World} {Q : Exit → Act → World → Prop} (hgd : o.guard = none) (s x : Operand) (ho : o.op = .call { callee := .builtin .append, args := #[s, x], argTypes := #[43, 43] })
    (base : Nat) (v : Value) (xs : List ID) (y : ID) (hs : a.eval s = v) (hown : OwnS w base 45 32 idL v xs) (g : Nat) (hx : a.eval x = .slice (some ⟨g, 0, none⟩) 1 1) (hg : obj w g = some (.cells (idL y).toArray 45 (0, 0)))
    (hlen : xs.length ≤ 1048576) (hbase : base ≤ w.heap.size)
    (h : ∀ v' w', OwnS w' base 45 32 idL v' (xs ++ [y]) → Below base w w' → (∀ k, k < w.heap.size → v.ownBlock ≠ some k → obj w' k = obj w k) → wpList Try.prog ops Q rest (a.put o.dst v') w') : wpList Try.prog ops Q (o :: rest) a w := by
  obtain ⟨i0, hi, hz0, hz1, hz2⟩ := info_parts info45
  exact wpList_push Try.underlying43 hi hz0 hz1 hz2 (by simp [Value.cells]) (by decide) idL idL_length idL_one hgd s x ho base v xs y hs hown g hx hg hlen (by decide) hbase h
/-- what the walk reads of a fact that lies in a row -/
theorem fact_parts {W : World} {b o : Nat} {x : FactD} (h : subOf (obj W b) o 72 = some (factL x).toArray) :
    (W.cell? ⟨b, o, none⟩ = some (.int .i64 x.move) ∧ W.cell? ⟨b, o + 1, none⟩ = some (.int .i64 x.kind) ∧ W.cell? ⟨b, o + 2, none⟩ = some (.int .i64 x.node) ∧ W.cell? ⟨b, o + 3, none⟩ = some (.int .i64 x.to)) ∧
    (subOf (obj W b) (o + 4) 32 = some (idL x.id).toArray ∧ subOf (obj W b) (o + 36) 32 = some (idL x.other).toArray) ∧
    (W.cell? ⟨b, o + 68, none⟩ = some (.int .i64 x.height) ∧ W.cell? ⟨b, o + 69, none⟩ = some (.int .i64 x.poll) ∧ W.cell? ⟨b, o + 70, none⟩ = some (slV x.slots) ∧ W.cell? ⟨b, o + 71, none⟩ = some (slV x.votes)) := by
  have c : ∀ j, j < 72 → W.cell? ⟨b, o + j, none⟩ = (factL x)[j]? := fun j hj => by rw [subOf_cell h hj]; simp
  exact ⟨⟨c 0 (by decide), c 1 (by decide), c 2 (by decide), c 3 (by decide)⟩, ⟨by rw [subOf_sub h (by decide), factL_id], by rw [subOf_sub h (by decide), factL_other]⟩,
    ⟨(c 68 (by decide)).trans (factL_68 x), (c 69 (by decide)).trans (factL_69 x), (c 70 (by decide)).trans (factL_70 x), (c 71 (by decide)).trans (factL_71 x)⟩⟩
theorem info5 : (Try.prog.info? 5).map (fun i => (i.zero, i.size, i.bytes)) = some (some (.int .u8 0), 1, 1) := by kernel_rfl
@[go_sem] theorem run_eql45 (d : Nat) (a b : ID) (w : World) : (Op.equalIn (d + 2) 45 (.agg (idL a).toArray) (.agg (idL b).toArray)).run Try.prog w = .ok (decide (a = b)) w := by
  obtain ⟨ie, hi, _⟩ := info_parts info5
  exact run_equalIn_id d Try.underlying45 hi (by kernel_rfl) Try.underlying5 Try.isAgg5 a b w
theorem keyOK45 : KeyOK Try.prog 45 idV := by
  obtain ⟨ie, hi, _⟩ := info_parts info5
  exact keyOK_id Try.underlying45 hi (by kernel_rfl) Try.underlying5 Try.isAgg5 Try.sizeOf5
@[go_sem ↓] theorem hide_build45 (ps : Array (Nat × Value)) : Instr.build 45 ps = buildAgg 45 ps := rfl
@[go_sem] theorem run_build45_nil (w : World) : (buildAgg 45 #[]).run Try.prog w = .ok (.agg (idL ID.zero).toArray) w := by kernel_rfl
@[go_sem ↓] theorem hide_load85 (a : Addr) : loadVar 85 a = loadAgg 85 a := rfl
@[go_sem ↓] theorem hide_store85 (a : Addr) (v : Value) : storeVar 85 a v = storeAgg 85 a v := rfl
@[go_sem] theorem run_load85 (b off : Nat) (W : World) : (loadAgg 85 ⟨b, off, none⟩).run Try.prog W = loadRes Try.prog 85 ⟨b, off, none⟩ W (subOf (obj W b) off 2) := run_loadAgg Try.isAgg85 Try.sizeOf85 b off W
@[go_sem] theorem run_store85 (b off : Nat) (cs : Array Value) (W : World) : (storeAgg 85 ⟨b, off, none⟩ (.agg cs)).run Try.prog W = storeRes Try.prog 85 ⟨b, off, none⟩ (.agg cs) W (putOf (obj W b) off 2 cs) := run_storeAgg Try.sizeOf85 b off cs W
/-- the few names of the law's own texts -/
def nameID (n : UInt8) : ID := ⟨n :: 1 :: List.replicate 30 0, by simp⟩
@[go_sem] theorem run_name45_0 (w : World) : (buildAgg 45 #[(0, .int .u8 0), (1, .int .u8 1)]).run Try.prog w = .ok (.agg (idL (nameID 0)).toArray) w := by kernel_rfl
@[go_sem] theorem run_name45_1 (w : World) : (buildAgg 45 #[(0, .int .u8 1), (1, .int .u8 1)]).run Try.prog w = .ok (.agg (idL (nameID 1)).toArray) w := by kernel_rfl
@[go_sem] theorem run_name45_2 (w : World) : (buildAgg 45 #[(0, .int .u8 2), (1, .int .u8 1)]).run Try.prog w = .ok (.agg (idL (nameID 2)).toArray) w := by kernel_rfl
@[go_sem] theorem run_name45_3 (w : World) : (buildAgg 45 #[(0, .int .u8 3), (1, .int .u8 1)]).run Try.prog w = .ok (.agg (idL (nameID 3)).toArray) w := by kernel_rfl
end Go.Proofs.Ytmenfbfekfljbaa
