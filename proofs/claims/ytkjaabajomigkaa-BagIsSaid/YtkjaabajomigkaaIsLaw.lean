import Derived.Test.YtkjaabajomigkaaLive
import Derived.Test.YtkjaabajomigkaaSame
import Derived.Test.YtkjaabajomigkaaOfR
namespace Go.Proofs.Ytkjaabajomigkaa
open Go.RowKit

@[go_sem] theorem run_two61 (a b : Option Addr) (n c n' c' : Nat) (w : World) : (Instr.buildSlice 61 2 #[(0, .slice a n c), (1, .slice b n' c')]).run Try.prog w = .ok (.slice (some ⟨w.heap.size, 0, none⟩) 2 2) (w.alloc (.cells #[.slice a n c, .slice b n' c'] 22)) := by kernel_rfl
set_option maxRecDepth 100000 in
set_option maxHeartbeats 2000000 in
theorem isLaw_many (w : World) (va vb vi : Value) (xs ys : List Vt) (ids : List ID) (h1 : SlIn w va 33 vtL xs) (h2 : SlIn w vb 33 vtL ys) (h3 : SlIn w vi 32 idL ids) (hn : ¬ (xs.length ≤ 60 ∧ ys.length ≤ 60)) :
    Calls Try.prog 3 #[va, vb, vi] w fun e w' => e = .returned (.bool true) ∧ Below w.heap.size w w' := by
  have HL := fun W => Lib.hid (live_any W)
  have H1 := Lib.hid h1
  have H2 := Lib.hid h2
  obtain ⟨oa, ca, rfl, a1, a2, a3⟩ := h1
  obtain ⟨ob, cb, rfl, b1, b2, b3⟩ := h2
  obtain ⟨oc, cc, rfl, c1, c2, c3⟩ := h3
  clear a3 b3 c3
  go_enter Try.func3, Try.ntmps3
  go_wp2_with fail
  refine (HL _).out.mono ?_
  rintro e w1 ⟨rfl, bb1⟩
  have B1 := Lib.hid bb1
  have o2 : obj (w1.alloc (.cells #[.slice oa xs.length ca, .slice ob ys.length cb] 22)) w1.heap.size = some (.cells #[.slice oa xs.length ca, .slice ob ys.length cb] 22 (0, 0)) := obj_alloc_at _ _ _ rfl
  have hb2 : Below w1.heap.size w1 (w1.alloc (.cells #[.slice oa xs.length ca, .slice ob ys.length cb] 22)) := (Below.refl _ _).alloc (Nat.le_refl _) _
  have HF := Lib.hid (few_any _ _ _ _ xs ys ((H1.out.below bb1).below hb2) ((H2.out.below bb1).below hb2) 22 (0, 0) o2)
  rw [show decide (xs.length ≤ 60 ∧ ys.length ≤ 60) = false from decide_eq_false hn] at HF
  have B2 := Lib.hid (bb1.trans (hb2.mono bb1.size))
  clear bb1 o2 hb2
  go_wp2_with fail
  refine HF.out.mono ?_
  rintro e w3 ⟨rfl, b3⟩
  have B3 := Lib.hid (B2.out.trans (b3.mono B2.out.size))
  clear b3
  go_wp2_with fail
  refine (HL _).out.mono ?_
  rintro e w4 ⟨rfl, b4⟩
  have B4 := Lib.hid (B3.out.trans (b4.mono B3.out.size))
  clear b4
  go_wp2
  go_ret
  exact ⟨rfl, B4.out⟩
set_option maxRecDepth 100000 in
set_option maxHeartbeats 2000000 in
theorem isLaw_names (w : World) (va vb vi : Value) (xs ys : List Vt) (ids : List ID) (h1 : SlIn w va 33 vtL xs) (h2 : SlIn w vb 33 vtL ys) (h3 : SlIn w vi 32 idL ids) (hn : xs.length ≤ 60 ∧ ys.length ≤ 60) (hm : 60 < ids.length) :
    Calls Try.prog 3 #[va, vb, vi] w fun e w' => e = .returned (.bool true) ∧ Below w.heap.size w w' := by
  have HL := fun W => Lib.hid (live_any W)
  have H1 := Lib.hid h1
  have H2 := Lib.hid h2
  obtain ⟨oa, ca, rfl, a1, a2, a3⟩ := h1
  obtain ⟨ob, cb, rfl, b1, b2, b3⟩ := h2
  obtain ⟨oc, cc, rfl, c1, c2, c3⟩ := h3
  clear a3 b3 c3
  have d60 : decide ((60 : Int) < (ids.length : Int)) = true := by simp; omega
  go_enter Try.func3, Try.ntmps3
  go_wp2_with fail
  refine (HL _).out.mono ?_
  rintro e w1 ⟨rfl, bb1⟩
  have B1 := Lib.hid bb1
  have o2 : obj (w1.alloc (.cells #[.slice oa xs.length ca, .slice ob ys.length cb] 22)) w1.heap.size = some (.cells #[.slice oa xs.length ca, .slice ob ys.length cb] 22 (0, 0)) := obj_alloc_at _ _ _ rfl
  have hb2 : Below w1.heap.size w1 (w1.alloc (.cells #[.slice oa xs.length ca, .slice ob ys.length cb] 22)) := (Below.refl _ _).alloc (Nat.le_refl _) _
  have HF := Lib.hid (few_any _ _ _ _ xs ys ((H1.out.below bb1).below hb2) ((H2.out.below bb1).below hb2) 22 (0, 0) o2)
  rw [show decide (xs.length ≤ 60 ∧ ys.length ≤ 60) = true from decide_eq_true hn] at HF
  have B2 := Lib.hid (bb1.trans (hb2.mono bb1.size))
  clear bb1 o2 hb2
  go_wp2_with fail
  refine HF.out.mono ?_
  rintro e w3 ⟨rfl, b3⟩
  have B3 := Lib.hid (B2.out.trans (b3.mono B2.out.size))
  clear b3
  go_wp2_with fail
  refine (HL _).out.mono ?_
  rintro e w4 ⟨rfl, b4⟩
  have B4 := Lib.hid (B3.out.trans (b4.mono B3.out.size))
  clear b4
  go_wp2
  go_ret
  exact ⟨rfl, B4.out⟩
end Go.Proofs.Ytkjaabajomigkaa
