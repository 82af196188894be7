import Derived.Test.YtfejhekoijemdaaCheck
import Derived.Test.YtfejhekoijemdaaPlainA
import Derived.Test.YtfejhekoijemdaaMapRE
namespace Go.Proofs.Ytfejhekoijemdaa
open Go.RowKit

def nV (n : Int) : Value := .int .i64 n
theorem gathK_snoc (x : Vt) : ∀ (l : List Vt) (L : List (ID × Int)), gathK L (l ++ [x]) = kPut x.id (getN (gathK L l) x.id + x.n) (gathK L l) := by
  intro l
  induction l with
  | nil => intro L; rfl
  | cons y l ih => intro L; exact ih _
theorem cnt_app (id : ID) (b : List Vt) : ∀ (a : List Vt), cnt id (a ++ b) = cnt id a + cnt id b := by
  intro a
  induction a with
  | nil => simp [cnt]
  | cons x a ih => simp only [List.cons_append, cnt]; rw [ih]; omega
theorem cnt_nn {l : List Vt} (h : Pos l) (id : ID) : 0 ≤ cnt id l := by
  induction l with
  | nil => simp [cnt]
  | cons x l ih =>
    have h1 := h x (by simp)
    have := ih fun y hy => h y (by simp [hy])
    simp only [cnt]
    split <;> omega
/-- what a map's entry is, and what it becomes: the facts that the walk reads -/
theorem entry115 (wr : World) (m : Nat) (L : List (ID × Int)) (k : ID) (n : Int) (h : MapB wr m idV nV L) : ∃ (es : Array MapEntry) (clk st : Nat) (es1 : Array MapEntry) (clk1 : Nat) (es' : Array MapEntry) (clk' : Nat),
    obj wr m = some (.map es clk) ∧
    (∀ w : World, obj w m = some (.map es clk) → (Instr.mapEntry 115 (.map (some m)) (.agg (idL k).toArray)).run Try.prog w = .ok (.tuple #[.int .i64 (getN L k), .int .i64 st]) (putObj w m (.map es1 clk1))) ∧
    (∀ w : World, obj w m = some (.map es clk) → (Instr.lookup 115 (.map (some m)) (.agg (idL k).toArray) false).run Try.prog w = .ok (.int .i64 (getN L k)) w) ∧
    (∀ w : World, obj w m = some (.map es1 clk1) → (Instr.lookup 115 (.map (some m)) (.agg (idL k).toArray) false).run Try.prog w = .ok (.int .i64 (getN L k)) w) ∧
    (∀ w : World, obj w m = some (.map es1 clk1) → (Instr.entryStore 115 (.map (some m)) (.int .i64 st) (.int .i64 n)).run Try.prog w = .ok () (putObj w m (.map es' clk'))) ∧
    (∀ w : World, obj w m = some (.map es' clk') → MapB w m idV nV (kPut k n L)) := by
  obtain ⟨es, clk, h1, h2, h3⟩ := h
  obtain ⟨st, es1, clk1, es', clk', g1, g2, g3, g4, g5, g6⟩ := run_entry_b (P := Try.prog) (t := 115) (kt := 37) (et := 3) keyOK37 Try.underlying115 (enc := nV) (vz := 0) (fun u => by kernel_rfl) h2 h3 m k n
  exact ⟨es, clk, st, es1, clk1, es', clk', h1, g1, g2, g3, g4, fun w hw => ⟨es', clk', hw, g5, g6⟩⟩
theorem putObj_put (w : World) (m : Nat) (a b : Obj) : putObj (putObj w m a) m b = putObj w m b := by
  unfold putObj
  simp
set_option maxRecDepth 100000 in
set_option maxHeartbeats 2000000 in
/-- bag.gather -/
theorem gather_any (w w0 : World) (m : Nat) (v : Value) (l : List Vt) (L : List (ID × Int)) (h : SlIn w0 v 33 vtL l) (hb0 : Below w0.heap.size w0 w) (hm0 : w0.heap.size ≤ m) (hM : MapB w m idV nV L) (hp : Pos l) (h0 : ∀ id, 0 ≤ getN L id) (hsum : ∀ id, getN L id + cnt id l ≤ 2097152) :
    Calls Try.prog 55 #[.map (some m), v] w fun e w' => e = .returned (.tuple #[]) ∧ MapB w' m idV nV (gathK L l) ∧ Keeps (fun k => k = m) w w' := by
  obtain ⟨oa, cap, rfl, g1, g2, g3⟩ := h
  unfold maxLen at g2
  have H3 := Lib.hid g3
  have HB0 := Lib.hid hb0
  have HM := Lib.hid hM
  have HSUM := Lib.hid hsum
  have H0 := Lib.hid h0
  clear g3 hb0 hM hsum h0
  go_enter Try.func55, Try.ntmps55
  go_wp2
  go_loopw [8] (fun v8 wr => ∃ (k : Nat), k ≤ l.length ∧ v8 = .int .i64 k ∧ Hid (MapB wr m idV nV (gathK L (l.take k))) ∧ Hid (Keeps (fun k => k = m) w wr)) (fun i _ => l.length - (intOf i).toNat)
  case atStart => exact ⟨0, Nat.zero_le _, rfl, Lib.hid (by simpa [gathK] using HM.out), Lib.hid (Keeps.refl _ _)⟩
  case round =>
    obtain ⟨k, hk, rfl, HMK, HK⟩ := hrel
    by_cases hlt : k < l.length
    · obtain ⟨b, off, hoa, hbb, hrow⟩ := H3.out (by omega)
      subst hoa
      have hs1 := hrow k hlt
      have hbz := HB0.out.size
      rw [← obj_below HB0.out hbb, ← HK.out.block b (by omega) (by omega)] at hs1
      have hbl : b < wr.heap.size := by have := HK.out.size; omega
      have hml := HMK.out.lt
      have hmulk : off + k * 33 + 33 ≤ off + k * 33 + 33 := Nat.le_refl _
      have o2 : obj (wr.alloc (.cells (vtL l[k]).toArray 58)) wr.heap.size = some (.cells (vtL l[k]).toArray 58 (0, 0)) := obj_alloc_at _ _ _ rfl
      have HK2 := Lib.hid (HK.out.alloc (.cells (vtL l[k]).toArray 58))
      have HM2 := Lib.hid (HMK.out.of_obj (obj_alloc_past wr (.cells (vtL l[k]).toArray 58) m hml))
      have hml2 : m < (wr.alloc (.cells (vtL l[k]).toArray 58)).heap.size := by simp; omega
      have hne : m ≠ wr.heap.size := by omega
      have hkk : Hid (gathK L (l.take (k + 1)) = kPut l[k].id (getN (gathK L (l.take k)) l[k].id + l[k].n) (gathK L (l.take k))) := Lib.hid (by rw [List.take_succ_eq_append_getElem hlt, gathK_snoc])
      have hle : getN (gathK L (l.take k)) l[k].id + l[k].n ≤ 2097152 := by
        have e1 := HSUM.out l[k].id
        have e2 := gathK_getN l[k].id (l.take k) L
        have e3 : l = l.take k ++ l[k] :: l.drop (k + 1) := by rw [← List.drop_eq_getElem_cons hlt, List.take_append_drop]
        have e4 := congrArg (cnt l[k].id) e3
        rw [cnt_app] at e4
        have e5 := cnt_nn (l := l.drop (k + 1)) (fun y hy => hp y (List.mem_of_mem_drop hy)) l[k].id
        simp only [cnt, if_true] at e4
        omega
      have hge : 0 ≤ getN (gathK L (l.take k)) l[k].id := by
        rw [gathK_getN]
        have := H0.out l[k].id
        have := cnt_nn (l := l.take k) (fun y hy => hp y (List.mem_of_mem_take hy)) l[k].id
        omega
      have hx1 := hp l[k] (by simp)
      generalize l[k] = x at *
      generalize gathK L (l.take k) = Lk at *
      obtain ⟨p1, p2⟩ := vt_parts (x := x) (W := wr.alloc (.cells (vtL x).toArray 58)) (b := wr.heap.size) (o := 0) (by rw [o2, subOf_cells (by simp), subA_all (by simp)])
      rw [Nat.zero_add] at p2
      have hwr : IntKind.i64.wrap (getN Lk x.id + x.n) = getN Lk x.id + x.n := by simp [IntKind.wrap, IntKind.signed, IntKind.bits]; omega
      obtain ⟨es, clk, st, es1, clk1, es', clk', f0, f1, f2, f3, f4, f5⟩ := entry115 _ m Lk x.id (getN Lk x.id + x.n) HM2.out
      clear hge hle hx1
      go_wp2
      generalize hbx : wr.heap.size = bx at *
      generalize wr.alloc (.cells (vtL x).toArray 58) = wr2 at *
      have f0' : obj (putObj wr2 m (.map es1 clk1)) m = some (.map es1 clk1) := obj_putObj_eq _ _ _ hml2
      have e0 : obj (putObj wr2 m (.map es1 clk1)) bx = obj wr2 bx := obj_putObj_ne _ _ _ _ (Ne.symm hne)
      have p1' := p1
      rw [← e0] at p1'
      have p2' : (putObj wr2 m (.map es1 clk1)).cell? ⟨bx, 32, none⟩ = some (.int .i64 x.n) := by rw [cell_putObj_ne (h := Ne.symm hne)]; exact p2
      have HF := Lib.hid (f5 (putObj wr2 m (.map es' clk')) (obj_putObj_eq _ _ _ hml2))
      have HPP := putObj_put wr2 m (.map es1 clk1) (.map es' clk')
      clear o2 e0 f5
      go_region
      go_wp2
      go_roundw
      case rel => exact ⟨k + 1, by omega, by go_num, by rw [hkk.out]; exact HF, Lib.hid (HK2.out.putObj (m := m) rfl _).drew⟩
      case measure => simp [intOf]; omega
    · have HE := HMK.out
      rw [List.take_of_length_le (by omega)] at HE
      have HG := Lib.hid HE
      clear HE
      go_wp2
      go_end0
      exact ⟨rfl, HG.out, HK.out⟩
end Go.Proofs.Ytfejhekoijemdaa
