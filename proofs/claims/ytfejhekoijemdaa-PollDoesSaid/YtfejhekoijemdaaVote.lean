import Derived.Test.YtfejhekoijemdaaPlainA
import Derived.LoopTactic
namespace Go.Proofs.Ytfejhekoijemdaa
open Go.RowKit

/-! ### loads and stores of names and votes as one step -/
@[go_sem ↓] theorem hide_load37 (a : Addr) : loadVar 37 a = loadAgg 37 a := rfl
@[go_sem ↓] theorem hide_load58 (a : Addr) : loadVar 58 a = loadAgg 58 a := rfl
@[go_sem ↓] theorem hide_store37 (a : Addr) (v : Value) : storeVar 37 a v = storeAgg 37 a v := rfl
@[go_sem ↓] theorem hide_store58 (a : Addr) (v : Value) : storeVar 58 a v = storeAgg 58 a v := rfl
@[go_sem] theorem run_load37 (b off : Nat) (W : World) : (loadAgg 37 ⟨b, off, none⟩).run Try.prog W = loadRes Try.prog 37 ⟨b, off, none⟩ W (subOf (obj W b) off 32) := run_loadAgg Try.isAgg37 Try.sizeOf37 b off W
@[go_sem] theorem run_load58 (b off : Nat) (W : World) : (loadAgg 58 ⟨b, off, none⟩).run Try.prog W = loadRes Try.prog 58 ⟨b, off, none⟩ W (subOf (obj W b) off 33) := run_loadAgg Try.isAgg58 Try.sizeOf58 b off W
@[go_sem] theorem run_store37 (b off : Nat) (cs : Array Value) (W : World) : (storeAgg 37 ⟨b, off, none⟩ (.agg cs)).run Try.prog W = storeRes Try.prog 37 ⟨b, off, none⟩ (.agg cs) W (putOf (obj W b) off 32 cs) := run_storeAgg Try.sizeOf37 b off cs W
@[go_sem] theorem run_store58 (b off : Nat) (cs : Array Value) (W : World) : (storeAgg 58 ⟨b, off, none⟩ (.agg cs)).run Try.prog W = storeRes Try.prog 58 ⟨b, off, none⟩ (.agg cs) W (putOf (obj W b) off 33 cs) := run_storeAgg Try.sizeOf58 b off cs W
def vtL (x : Vt) : List Value := idL x.id ++ [.int .i64 x.n]
@[reducible] def vtV (x : Vt) : Value := .agg (vtL x).toArray
section
variable (x : Vt)
@[go_sem, simp] theorem vtL_length : (vtL x).length = 33 := by simp [vtL]
@[go_sem] theorem vtL_one : allOne (vtL x).toArray = true := by
  simp only [allOne, List.all_eq_true]
  intro v hv
  simp only [vtL, List.mem_append, List.mem_singleton] at hv
  rcases hv with h | rfl
  · exact idL_one' _ _ h
  · rfl
theorem vtL_one' : ∀ v ∈ vtL x, v.oneCell' = true := by
  have := vtL_one x
  simpa only [allOne, List.all_eq_true] using this
@[go_sem] theorem vtL_32 : (vtL x)[32]? = some (.int .i64 x.n) := by
  unfold vtL
  rw [List.getElem?_append_right (by simp)]
  simp
@[go_sem] theorem vtL_g32 (h : 32 < (vtL x).length) : (vtL x)[32]'h = .int .i64 x.n := Option.some.inj ((List.getElem?_eq_getElem h).symm.trans (vtL_32 x))
@[go_sem] theorem vtL_id : subA (vtL x).toArray 0 32 = (idL x.id).toArray := by
  rw [subA_list]
  congr 1
  exact List.take_left' (idL_length _)
end
theorem vtL_parts {a b : Vt} (h : vtL a = vtL b) : a = b := by
  have h1 := List.append_inj h (by simp)
  have h2 := idL_inj h1.1
  have h3 : a.n = b.n := by simpa using h1.2
  cases a; cases b; simp_all
def Vt.zero : Vt := ⟨ID.zero, 0⟩
instance : Inhabited Vt := ⟨Vt.zero⟩
@[go_sem ↓] theorem zero37 (w : World) : (zeroValue 37).run Try.prog w = .ok (.agg (idL ID.zero).toArray) w := by kernel_rfl
@[go_sem ↓] theorem zero58 (w : World) : (zeroValue 58).run Try.prog w = .ok (.agg (vtL Vt.zero).toArray) w := by kernel_rfl
theorem info37 : (Try.prog.info? 37).map (fun i => (i.zero, i.size, i.bytes)) = some (some (.agg (idL ID.zero).toArray), 32, 32) := by kernel_rfl
theorem info58 : (Try.prog.info? 58).map (fun i => (i.zero, i.size, i.bytes)) = some (some (.agg (vtL Vt.zero).toArray), 33, 40) := by kernel_rfl
@[go_sem ↓] theorem hide_row41 (n : Nat) (ps : Array (Nat × Value)) : Instr.buildSlice 41 n ps = buildRow 41 n ps := rfl
@[go_sem] theorem run_one41 (a : Vt) (w : World) : (buildRow 41 1 #[(0, .agg (vtL a).toArray)]).run Try.prog w = .ok (.slice (some ⟨w.heap.size, 0, none⟩) 1 1) (w.alloc (.cells (vtL a).toArray 58)) := by
  obtain ⟨i0, hi, hz0, hz1, hz2⟩ := info_parts info58
  exact run_buildOne Try.underlying41 hi hz0 hz1 (by decide) (by decide) _ (by simp) w
theorem push41 {ops : Array Oper} {rest : List Oper} {o : Oper} {a : Act} {w : World} {Q : Exit → Act → World → Prop} (hgd : o.guard = none) (s x : Operand) (ho : o.op = .call { callee := .builtin .append, args := #[s, x], argTypes := #[41, 41] })
    (base : Nat) (v : Value) (xs : List Vt) (y : Vt) (hs : a.eval s = v) (hown : OwnS w base 58 33 vtL v xs) (g : Nat) (hx : a.eval x = .slice (some ⟨g, 0, none⟩) 1 1) (hg : obj w g = some (.cells (vtL y).toArray 58 (0, 0)))
    (hlen : xs.length ≤ 1048576) (hbase : base ≤ w.heap.size)
    (h : ∀ v' w', OwnS w' base 58 33 vtL v' (xs ++ [y]) → Below base w w' → (∀ k, k < w.heap.size → v.ownBlock ≠ some k → obj w' k = obj w k) → wpList Try.prog ops Q rest (a.put o.dst v') w') : wpList Try.prog ops Q (o :: rest) a w := by
  obtain ⟨i0, hi, hz0, hz1, hz2⟩ := info_parts info58
  exact wpList_push Try.underlying41 hi hz0 hz1 hz2 (by simp [Value.cells]) (by decide) vtL vtL_length vtL_one hgd s x ho base v xs y hs hown g hx hg hlen (by decide) hbase h
/-- what the walk reads of a vote that lies in a row -/
theorem vt_parts {W : World} {b o : Nat} {x : Vt} (h : subOf (obj W b) o 33 = some (vtL x).toArray) : subOf (obj W b) o 32 = some (idL x.id).toArray ∧ W.cell? ⟨b, o + 32, none⟩ = some (.int .i64 x.n) := by
  constructor
  · have := subOf_sub h (i := 0) (m := 32) (by decide)
    rw [Nat.add_zero, vtL_id] at this
    exact this
  · rw [subOf_cell h (by decide), List.getElem?_toArray]
    exact vtL_32 x
theorem info5 : (Try.prog.info? 5).map (fun i => (i.zero, i.size, i.bytes)) = some (some (.int .u8 0), 1, 1) := by kernel_rfl
@[go_sem] theorem run_eql37 (d : Nat) (a b : ID) (w : World) : (Op.equalIn (d + 2) 37 (.agg (idL a).toArray) (.agg (idL b).toArray)).run Try.prog w = .ok (decide (a = b)) w := by
  obtain ⟨ie, hi, _⟩ := info_parts info5
  exact run_equalIn_id d Try.underlying37 hi (by kernel_rfl) Try.underlying5 Try.isAgg5 a b w
theorem keyOK37 : KeyOK Try.prog 37 idV := by
  obtain ⟨ie, hi, _⟩ := info_parts info5
  exact keyOK_id Try.underlying37 hi (by kernel_rfl) Try.underlying5 Try.isAgg5 Try.sizeOf5
@[go_sem ↓] theorem hide_build37 (ps : Array (Nat × Value)) : Instr.build 37 ps = buildAgg 37 ps := rfl
@[go_sem ↓] theorem hide_build58 (ps : Array (Nat × Value)) : Instr.build 58 ps = buildAgg 58 ps := rfl
@[go_sem] theorem run_build37_nil (w : World) : (buildAgg 37 #[]).run Try.prog w = .ok (.agg (idL ID.zero).toArray) w := by kernel_rfl
theorem fill58 (a : ID) (n : Int) : Instr.fill (#[(0, 32), (32, 1)][·]?) (vtL Vt.zero).toArray [(0, .agg (idL a).toArray), (1, .int .i64 n)] = some (vtL ⟨a, n⟩).toArray := by
  rw [fill_agg (place := (#[(0, 32), (32, 1)][·]?)) (off := 0) (n := 32) (v := .agg (idL a).toArray) rfl (by simp [Value.cells]) (by simp)]
  rw [fill_agg (place := (#[(0, 32), (32, 1)][·]?)) (off := 32) (n := 1) (v := .int .i64 n) rfl (by simp [Value.cells]) (by rw [size_spliceA (by simp [Value.cells])]; simp)]
  simp only [Instr.fill, Value.cells]
  congr 1
  simp only [spliceA, List.take_zero, List.nil_append, Nat.zero_add, idL_length]
  rw [show (vtL Vt.zero).drop 32 = [.int .i64 0] from List.drop_left' (idL_length _)]
  rw [List.take_left' (idL_length _), List.drop_eq_nil_of_le (by simp), List.append_nil]
  rfl
set_option maxRecDepth 100000 in
@[go_sem] theorem run_build58 (a : ID) (n : Int) (w : World) : (buildAgg 58 #[(0, .agg (idL a).toArray), (1, .int .i64 n)]).run Try.prog w = .ok (.agg (vtL ⟨a, n⟩).toArray) w := by
  refine run_build w 58 _ _ ?_
  obtain ⟨i0, hi, hz0, hz1, hz2⟩ := info_parts info58
  have hp : ((match Try.prog.underlying 58 with | some (.struct fields) => fields.toList | _ => []).mapM (fun (f : Field) => (Try.prog.info? f.type).map fun (i : TypeInfo) => (f.offset, i.size))) = some [(0, 32), (32, 1)] := by kernel_rfl
  rw [Try.underlying58] at hp
  unfold Program.built
  rw [hi, Try.underlying58]
  simp only [hz0] at hp ⊢
  rw [hp]
  exact fill58 a n
def nameID (n : UInt8) : ID := ⟨n :: List.replicate 31 0, by simp⟩
@[go_sem] theorem run_name37_1 (w : World) : (buildAgg 37 #[(0, .int .u8 1)]).run Try.prog w = .ok (.agg (idL (nameID 1)).toArray) w := by kernel_rfl
@[go_sem] theorem run_name37_2 (w : World) : (buildAgg 37 #[(0, .int .u8 2)]).run Try.prog w = .ok (.agg (idL (nameID 2)).toArray) w := by kernel_rfl
end Go.Proofs.Ytfejhekoijemdaa
