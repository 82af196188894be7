import Derived.Test.YtagpclgappcnbaaGreatAkD
import Derived.Test.YtagpclgappcnbaaGreatAkR
import Derived.RangeFuncBox
import Derived.Shelf.SlMaps.Clone
namespace Go.Proofs.YtagpclgappcnbaaGreat.Ak
open Go.RowKit Go.Shelf

/-- a book whose map may be ranged over -/
structure BK (w : World) (b m : Nat) (S : BookD) : Prop where
  at_ : BookAt w b m S
  st : StampM w m
  rise : RiseL S.L
theorem BK.below {w W : World} {b m : Nat} {S : BookD} (h : BK w b m S) (hb : Below w.heap.size w W) : BK W b m S :=
  ⟨h.at_.below hb, h.st.of_obj (obj_below hb h.at_.mlt), h.rise⟩
end Go.Proofs.YtagpclgappcnbaaGreat.Ak
namespace Go.Proofs.YtagpclgappcnbaaGreat
open Go.RowKit Go.Shelf
open Go.Proofs.YtagpclgappcnbaaGreat.Ak
theorem ValAt.mono {α : Type} {T k : Nat} {enc : α → List Value} {D D' : Nat → Prop} {w : World} {Bs : Nat} {v : Value} {xs : List α} (h : ValAt T k enc D w Bs v xs) (hd : ∀ n, D n → D' n) : ValAt T k enc D' w Bs v xs :=
  ⟨h.box, h.sl, hd _ h.db, fun a l c e => hd _ (h.dv a l c e)⟩
end Go.Proofs.YtagpclgappcnbaaGreat
namespace Go.Proofs.YtagpclgappcnbaaGreat.Ak
open Go.RowKit Go.Shelf
attribute [local go_sem] Oper.semAt_some
def ofFrame (B b lb : Nat) (node : Int) (x : AskD) (c : Nat) : Act :=
  { tmps := #[.pointer (some ⟨b, 0, none⟩), .int .i64 node, undef, .pointer (some ⟨B, 0, none⟩), .int .i64 0, .pointer (some ⟨B + 1, 0, none⟩), .pointer (some ⟨c, 0, none⟩), .pointer (some ⟨b, 0, none⟩), .func (.func 42) #[] #[.pointer (some ⟨lb, 0, none⟩)], akV x, undef, undef, undef, undef, undef, undef, undef], defers := [] }
theorem below_setIn {B : Nat} {a w : World} (h : Below B a w) {p : Addr} (hp : B ≤ p.block) (v : Value) : Below B a (w.setCell p v) := h.setCell hp v
end Go.Proofs.YtagpclgappcnbaaGreat.Ak
namespace Go.Proofs.YtagpclgappcnbaaGreat.Ak
open Go.RowKit Go.Shelf

set_option maxRecDepth 100000 in
set_option maxHeartbeats 2000000 in
/-- maps.Clone -/
theorem mapClone (w : World) (b : Nat) (es : Array MapEntry) (clock : Nat) (hb : obj w b = some (.map es clock)) :
    Calls Tryz.prog 93 #[.map (some b)] w fun e w' => e = .returned (.map (some w.heap.size)) ∧ w' = w.alloc (.map es clock) := by
  have hq := fun w => run_eql_map_nil_sl (P := Tryz.prog) w 122 _ _ (some b) Tryz.underlying122
  have HB := Lib.hid hb
  clear hb
  go_enter Tryz.func93, Tryz.ntmps93
  go_wp2
  rw [run_callFunc_extern Tryz.func125 (by kernel_rfl) (by kernel_rfl) (by kernel_rfl) (e := Extern.MapsClone.clone) (by kernel_rfl), run_maps_clone_sl w 122 HB.out]
  simp only [Result.andThen]
  rw [Oper.upon_value]
  go_wp2
  rw [run_typeAssert_map_sl _ 122 20 _ _ _ Tryz.underlying122]
  simp only [Result.andThen]
  rw [Oper.upon_value]
  go_wp2
  go_ret
  exact ⟨rfl, rfl⟩
set_option maxRecDepth 100000 in
set_option maxHeartbeats 2000000 in
theorem clone_book (w : World) (b m : Nat) (S : BookD) (h : BK w b m S) :
    Calls Tryz.prog 51 #[.pointer (some ⟨b, 0, none⟩)] w fun e w' => e = .returned (.pointer (some ⟨w.heap.size, 0, none⟩)) ∧ BK w' w.heap.size (w.heap.size + 1) S ∧ Below w.heap.size w w' := by
  have c2 : w.cell? ⟨b, 2, none⟩ = some (.map (some m)) := cell_at h.at_.cells 2
  have HNO := Lib.hid (none_made w b m c2)
  have HRI := Lib.hid h.rise
  have cs := h.at_.cells
  have hz := h.at_.lt
  have hmz := h.at_.mlt
  obtain ⟨es, clk, hm, hr⟩ := h.at_.map
  have hst := h.st.of hm
  have HR := Lib.hid (And.intro hr hst)
  have b1 : Below w.heap.size w (w.alloc (.cells (bookCells m S) 124)) := (Below.refl _ w).alloc (Nat.le_refl _) _
  have o1 : obj (w.alloc (.cells (bookCells m S) 124)) w.heap.size = some (.cells (bookCells m S) 124 (0, 0)) := obj_alloc_at _ _ _ rfl
  have HMC := Lib.hid (mapClone _ m es clk ((obj_below b1 hmz).trans hm))
  have cb := (obj_below b1 hz).trans cs
  have c2' : (w.alloc (.cells (bookCells m S) 124)).cell? ⟨b, 2, none⟩ = some (.map (some m)) := cell_at cb 2
  have k0 : w.cell? ⟨b, 0, none⟩ = some (.int .i64 S.room) := cell_at cs 0
  have k1 : w.cell? ⟨b, 1, none⟩ = some (.int .i64 S.last) := cell_at cs 1
  have k3 : w.cell? ⟨b, 3, none⟩ = some (.int .i64 S.asked) := cell_at cs 3
  have k4 : w.cell? ⟨b, 4, none⟩ = some (.int .i64 S.ans) := cell_at cs 4
  have k5 : w.cell? ⟨b, 5, none⟩ = some (.int .i64 S.exp) := cell_at cs 5
  have B1 := Lib.hid b1
  clear h hm hr hst b1 cs
  go_enter Tryz.func51, Tryz.ntmps51
  go_wp2_with fail
  refine HNO.out.mono ?_
  rintro e w2 ⟨rfl, hw2⟩
  cases hw2
  go_wp2_with fail
  simp only [bookCells] at HMC o1
  refine HMC.out.mono ?_
  rintro e w3 ⟨rfl, hw3⟩
  have hw1 : (w.alloc (.cells #[.int .i64 S.room, .int .i64 S.last, .map (some m), .int .i64 S.asked, .int .i64 S.ans, .int .i64 S.exp] 124)).heap.size = w.heap.size + 1 := by simp
  have BB1 : Hid (Below w.heap.size w (w.alloc (.cells #[.int .i64 S.room, .int .i64 S.last, .map (some m), .int .i64 S.asked, .int .i64 S.ans, .int .i64 S.exp] 124))) := Lib.hid B1.out
  rw [hw1]
  generalize w.alloc (.cells #[.int .i64 S.room, .int .i64 S.last, .map (some m), .int .i64 S.asked, .int .i64 S.ans, .int .i64 S.exp] 124) = w1 at *
  have b2 : Below w1.heap.size w1 w3 := by rw [hw3]; exact (Below.refl _ w1).alloc (Nat.le_refl _) _
  have o3 := (obj_below b2 (lt_of_obj o1)).trans o1
  have om : obj w3 (w.heap.size + 1) = some (.map es clk) := by rw [hw3]; exact obj_alloc_at _ _ _ hw1.symm
  have z3 := lt_of_obj o3
  have q2 : w3.cell? ⟨w.heap.size, 2, none⟩ = some (.map (some m)) := cell_at o3 2
  have fz := frozen_at o3
  have B3 := Lib.hid (BB1.out.trans (b2.mono BB1.out.size))
  clear b2 hw3 o1 cb c2' k0 k1 k3 k4 k5 HMC
  go_wp2
  go_ret
  have oo : obj (w3.setCell ⟨w.heap.size, 2, none⟩ (.map (some (w.heap.size + 1)))) w.heap.size = some (.cells (bookCells (w.heap.size + 1) S) 124 (0, 0)) := obj_setCell_at _ o3
  have om' : obj (w3.setCell ⟨w.heap.size, 2, none⟩ (.map (some (w.heap.size + 1)))) (w.heap.size + 1) = some (.map es clk) := (obj_setCell_ne _ _ _ _ (by simp)).trans om
  exact ⟨rfl, ⟨⟨oo, ⟨es, clk, om', HR.out.1⟩⟩, ⟨es, clk, om', HR.out.2⟩, HRI.out⟩, B3.out.setCell (p := ⟨w.heap.size, 2, none⟩) (Nat.le_refl _) _⟩
end Go.Proofs.YtagpclgappcnbaaGreat.Ak
