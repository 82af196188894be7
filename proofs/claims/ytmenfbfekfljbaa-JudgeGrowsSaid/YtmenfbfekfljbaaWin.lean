import Derived.Test.YtmenfbfekfljbaaVoters
import Derived.Test.YtmenfbfekfljbaaReign
import Derived.Test.YtmenfbfekfljbaaApp
import Derived.Test.YtmenfbfekfljbaaPolls
namespace Go.Proofs.Ytmenfbfekfljbaa
open Go.RowKit Go.Shelf

structure WinD where
  node : Int
  id : ID
  move : Int
  vo : SlD
def winL (x : WinD) : List Value := Value.int .i64 x.node :: (idL x.id ++ [.int .i64 x.move, slV x.vo])
def nilS : SlD := ⟨none, 0, 0⟩
def WinD.zero : WinD := ⟨0, ID.zero, 0, nilS⟩
section
variable (x : WinD)
@[go_sem, simp] theorem winL_length : (winL x).length = 35 := by simp [winL]
@[go_sem] theorem winL_one : allOne (winL x).toArray = true := by
  simp only [allOne, List.all_eq_true]
  intro v hv
  simp only [winL, List.mem_cons, List.mem_append, List.not_mem_nil, or_false] at hv
  rcases hv with rfl | h | rfl | rfl
  · rfl
  · exact idL_one' _ _ h
  · rfl
  · rfl
@[go_sem] theorem winL_0 : (winL x)[0]? = some (.int .i64 x.node) := rfl
theorem winL_tail (i : Nat) : (winL x)[33 + i]? = [Value.int .i64 x.move, slV x.vo][i]? := by
  unfold winL
  rw [show 33 + i = (32 + i) + 1 by omega, List.getElem?_cons_succ, List.getElem?_append_right (by simp)]
  simp
@[go_sem] theorem winL_33 : (winL x)[33]? = some (.int .i64 x.move) := winL_tail x 0
@[go_sem] theorem winL_34 : (winL x)[34]? = some (.slice x.vo.a x.vo.len x.vo.cap) := winL_tail x 1
@[go_sem] theorem winL_id : subA (winL x).toArray 1 32 = (idL x.id).toArray := by
  rw [subA_list]
  congr 1
  simp only [winL, List.drop_succ_cons, List.drop_zero]
  exact List.take_left' (idL_length _)
theorem winL_set (s : SlD) : (winL x).toArray.setIfInBounds 34 (slV s) = (winL { x with vo := s }).toArray := by
  apply Array.ext'
  simp only [Array.toList_setIfInBounds, winL]
  rw [show (34 : Nat) = 33 + 1 from rfl, List.set_cons_succ, List.set_append_right _ _ (by simp)]
  simp
end
@[go_sem ↓] theorem hide_load74 (a : Addr) : loadVar 74 a = loadAgg 74 a := rfl
@[go_sem ↓] theorem hide_store74 (a : Addr) (v : Value) : storeVar 74 a v = storeAgg 74 a v := rfl
@[go_sem] theorem run_load74 (b off : Nat) (W : World) : (loadAgg 74 ⟨b, off, none⟩).run Try.prog W = loadRes Try.prog 74 ⟨b, off, none⟩ W (subOf (obj W b) off 35) := run_loadAgg Try.isAgg74 Try.sizeOf74 b off W
@[go_sem] theorem run_store74 (b off : Nat) (cs : Array Value) (W : World) : (storeAgg 74 ⟨b, off, none⟩ (.agg cs)).run Try.prog W = storeRes Try.prog 74 ⟨b, off, none⟩ (.agg cs) W (putOf (obj W b) off 35 cs) := run_storeAgg Try.sizeOf74 b off cs W
@[go_sem ↓] theorem zero74 (w : World) : (zeroValue 74).run Try.prog w = .ok (.agg (winL WinD.zero).toArray) w := by kernel_rfl
@[go_sem ↓] theorem hide_build74 (ps : Array (Nat × Value)) : Instr.build 74 ps = buildAgg 74 ps := rfl
theorem info74 : (Try.prog.info? 74).map (fun i => (i.zero, i.size, i.bytes)) = some (some (.agg (winL WinD.zero).toArray), 35, 72) := by kernel_rfl
theorem info38 : (Try.prog.info? 38).map (fun i => (i.zero, i.size, i.bytes)) = some (some (.slice none 0 0), 1, 24) := by kernel_rfl
@[go_sem ↓] theorem hide_row70 (n : Nat) (ps : Array (Nat × Value)) : Instr.buildSlice 70 n ps = buildRow 70 n ps := rfl
@[go_sem] theorem run_one70 (a : WinD) (w : World) : (buildRow 70 1 #[(0, .agg (winL a).toArray)]).run Try.prog w = .ok (.slice (some ⟨w.heap.size, 0, none⟩) 1 1) (w.alloc (.cells (winL a).toArray 74)) := by
  obtain ⟨i0, hi, hz0, hz1, hz2⟩ := info_parts info74
  exact run_buildOne Try.underlying70 hi hz0 hz1 (by decide) (by decide) _ (by simp) w
theorem fill74 (n m : Int) (a : ID) : Instr.fill (#[(0, 1), (1, 32), (33, 1), (34, 1)][·]?) (winL WinD.zero).toArray [(0, .int .i64 n), (1, .agg (idL a).toArray), (2, .int .i64 m)] = some (winL ⟨n, a, m, nilS⟩).toArray := by
  rw [fill_agg (place := (#[(0, 1), (1, 32), (33, 1), (34, 1)][·]?)) (off := 0) (n := 1) (v := .int .i64 n) rfl (by simp [Value.cells]) (by simp)]
  rw [fill_agg (place := (#[(0, 1), (1, 32), (33, 1), (34, 1)][·]?)) (off := 1) (n := 32) (v := .agg (idL a).toArray) rfl (by simp [Value.cells]) (by rw [size_spliceA (by simp [Value.cells])]; simp)]
  rw [fill_agg (place := (#[(0, 1), (1, 32), (33, 1), (34, 1)][·]?)) (off := 33) (n := 1) (v := .int .i64 m) rfl (by simp [Value.cells]) (by rw [size_spliceA (by rw [size_spliceA (by simp [Value.cells])]; simp [Value.cells]), size_spliceA (by simp [Value.cells])]; simp)]
  simp only [Instr.fill, Value.cells]
  congr 1
  simp only [spliceA, List.take_zero, List.nil_append, Nat.zero_add, idL_length, List.length_cons, List.length_nil]
  have e1 : (winL WinD.zero).drop 1 = idL ID.zero ++ [.int .i64 0, .slice none 0 0] := rfl
  rw [e1]
  have e2 : (Value.int .i64 n :: (idL ID.zero ++ [.int .i64 0, .slice none 0 0])).drop (1 + 32) = [.int .i64 0, .slice none 0 0] := by
    rw [Nat.add_comm, List.drop_succ_cons]
    exact List.drop_left' (idL_length _)
  have e3 : (idL a ++ [Value.int .i64 0, .slice none 0 0]).take 32 = idL a := List.take_left' (idL_length _)
  have e4 : (Value.int .i64 n :: (idL a ++ [.int .i64 0, .slice none 0 0])).drop (33 + 1) = [.slice none 0 0] := by
    rw [List.drop_succ_cons, show (33 : Nat) = 32 + 1 from rfl, ← List.drop_drop, List.drop_left' (idL_length _)]
    rfl
  simp only [List.cons_append, List.nil_append, List.take_succ_cons, List.take_zero] at e2 e3 e4 ⊢
  simp only [e2, e3, e4, winL, List.append_assoc, List.cons_append, List.nil_append]
  rfl
set_option maxRecDepth 100000 in
@[go_sem] theorem run_build74 (n m : Int) (a : ID) (w : World) : (buildAgg 74 #[(0, .int .i64 n), (1, .agg (idL a).toArray), (2, .int .i64 m)]).run Try.prog w = .ok (.agg (winL ⟨n, a, m, nilS⟩).toArray) w := by
  refine run_build w 74 _ _ ?_
  obtain ⟨i0, hi, hz0, hz1, hz2⟩ := info_parts info74
  have hp : ((match Try.prog.underlying 74 with | some (.struct fields) => fields.toList | _ => []).mapM (fun (f : Field) => (Try.prog.info? f.type).map fun (i : TypeInfo) => (f.offset, i.size))) = some [(0, 1), (1, 32), (33, 1), (34, 1)] := by kernel_rfl
  rw [Try.underlying74] at hp
  unfold Program.built
  rw [hi, Try.underlying74]
  simp only [hz0] at hp ⊢
  rw [hp]
  exact fill74 n m a
/-! ### a list's places at which a fact is of a kind -/
def donB (nd : Int) (x : FactD) : Bool := x.kind == 7 && x.node == nd
def donK (nd : Int) (l : List FactD) (k : Nat) : List Nat := (List.range k).filter fun i => match l[i]? with | some x => donB nd x | none => false
theorem donK_yes {nd : Int} {l : List FactD} {k : Nat} (h : k < l.length) (hb : donB nd l[k] = true) : donK nd l (k + 1) = donK nd l k ++ [k] := by
  unfold donK
  rw [List.range_succ, List.filter_append]
  simp [h, hb]
theorem donK_no {nd : Int} {l : List FactD} {k : Nat} (h : k < l.length) (hb : donB nd l[k] = false) : donK nd l (k + 1) = donK nd l k := by
  unfold donK
  rw [List.range_succ, List.filter_append]
  simp [h, hb]
theorem donK_len (nd : Int) (l : List FactD) (k : Nat) : (donK nd l k).length ≤ k := by
  unfold donK
  exact Nat.le_trans (List.length_filter_le _ _) (by simp)
theorem donK_lt {nd : Int} {l : List FactD} {k : Nat} {i : Nat} (h : i ∈ donK nd l k) : i < k ∧ ∃ hi : i < l.length, donB nd l[i] = true := by
  unfold donK at h
  rw [List.mem_filter, List.mem_range] at h
  refine ⟨h.1, ?_⟩
  have h2 := h.2
  split at h2
  · rename_i x hx
    rw [List.getElem?_eq_some_iff] at hx
    obtain ⟨hi, rfl⟩ := hx
    exact ⟨hi, h2⟩
  · cases h2
def lastN (beta : Int) (d : List Nat) : List Nat := d.drop (d.length - min (max beta 0).toNat d.length)
def wv (xs : List FactD) (l : List FactD) (x : FactD) (i : Nat) : List Int := votersF xs x.node ((l[i]?.getD FactD.zero).poll) x.id (l.take i)
def windowF (xs : List FactD) (beta : Int) (l : List FactD) (x : FactD) : List (List Int) := (lastN beta (donK x.node l l.length)).map (wv xs l x)
def qL (q : SlD × List Int) : List Value := [slV q.1]
theorem qL_length (q : SlD × List Int) : (qL q).length = 1 := rfl
theorem qL_one (q : SlD × List Int) : allOne (qL q).toArray = true := rfl
/-- a window's lists of voters, and them -/
structure WinX where
  w : WinD
  vq : List (SlD × List Int)
def wxL (z : WinX) : List Value := winL z.w
theorem wxL_length (z : WinX) : (wxL z).length = 35 := winL_length _
theorem wxL_one (z : WinX) : allOne (wxL z).toArray = true := winL_one _
def VqIn (W : World) (base : Nat) (v : Value) (vq : List (SlD × List Int)) : Prop := OwnS W base 38 1 qL v vq ∧ ∀ q ∈ vq, OwnS W base 3 1 iL (slV q.1) q.2
theorem VqIn.below {w W : World} {base : Nat} {v : Value} {vq : List (SlD × List Int)} (h : VqIn w base v vq) (hb : Below w.heap.size w W) : VqIn W base v vq := ⟨h.1.below hb, fun q hq => (h.2 q hq).below hb⟩
theorem VqIn.lower {w : World} {base base' : Nat} {v : Value} {vq : List (SlD × List Int)} (h : VqIn w base v vq) (hb : base' ≤ base) : VqIn w base' v vq := ⟨h.1.lower hb, fun q hq => (h.2 q hq).lower hb⟩
/-- a slice of other elements has another block -/
theorem OwnS.other {α β : Type} {w : World} {base base' E E' k k' : Nat} {enc : α → List Value} {enc' : β → List Value} {v v' : Value} {xs : List α} {ys : List β} (h : OwnS w base E k enc v xs) (h' : OwnS w base' E' k' enc' v' ys) (hE : E ≠ E') : ∀ g, v.ownBlock = some g → v'.ownBlock ≠ some g := by
  intro g hg
  rcases h.1.2 with ⟨rfl, _⟩ | ⟨g', cap, cur, rfl, _, ho, _⟩
  · simp [Value.ownBlock] at hg
  · simp only [Value.ownBlock, Option.some.injEq] at hg
    subst hg
    exact h'.ne ho (fun cur' e => hE (by simp only [Obj.cells.injEq] at e; exact e.2.1))
/-- such a slice behind a change of another's block alone -/
theorem OwnS.past {α β : Type} {w W : World} {base base' E E' k k' : Nat} {enc : α → List Value} {enc' : β → List Value} {v v' : Value} {xs : List α} {ys : List β} (h : OwnS w base E k enc v xs) (h' : OwnS w base' E' k' enc' v' ys) (hE : E ≠ E') (hk : ∀ k, k < w.heap.size → v'.ownBlock ≠ some k → obj W k = obj w k) : OwnS W base E k enc v xs :=
  h.keeps fun g hg => hk g (h.1.lt g hg).2 (h.other h' hE g hg)
theorem OwnS.setCell {α : Type} {w : World} {base E k : Nat} {enc : α → List Value} {v : Value} {xs : List α} (h : OwnS w base E k enc v xs) {a : Addr} {o : Obj} (ho : obj w a.block = some o) (hne : ∀ cur, o ≠ .cells cur E (0, 0)) (u : Value) : OwnS (w.setCell a u) base E k enc v xs :=
  h.keeps fun g hg => obj_setCell_ne _ a _ _ (fun e => h.ne ho hne (by rw [hg, e]))
end Go.Proofs.Ytmenfbfekfljbaa
