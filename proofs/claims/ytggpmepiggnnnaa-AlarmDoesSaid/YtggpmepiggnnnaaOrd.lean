import Derived.Test.YtggpmepiggnnnaaCollect
import Derived.Sort.Grow
namespace Go.Proofs.Ytggpmepiggnnnaa
open Go.RowKit Go.Shelf Go.Sort

def cmpAl (a b : Al) : Int := if alLt a b = true then -1 else if alLt b a = true then 1 else 0
set_option maxRecDepth 100000 in
theorem less_grow (w : World) (a b : Al) : Calls Try.prog 52 #[.agg #[.int .i64 a.1, .int .i64 a.2], .agg #[.int .i64 b.1, .int .i64 b.2]] w fun e w' => e = .returned (.bool (alLt a b)) ∧ w' = grow w #[.cells #[.int .i64 a.1, .int .i64 a.2] 32 (0, 0), .cells #[.int .i64 b.1, .int .i64 b.2] 32 (0, 0)] := by
  have HB : Hid (alLt a b = (decide (a.1 < b.1) || ((a.1 == b.1) && decide (a.2 < b.2)))) := Lib.hid (by unfold alLt; congr 2)
  have hb : Hid ((w.alloc (.cells #[.int .i64 a.1, .int .i64 a.2] 32)).alloc (.cells #[.int .i64 b.1, .int .i64 b.2] 32) = grow w #[.cells #[.int .i64 a.1, .int .i64 a.2] 32 (0, 0), .cells #[.int .i64 b.1, .int .i64 b.2] 32 (0, 0)]) := Lib.hid (by rw [alloc_eq_grow, alloc_eq_grow, grow_grow]; rfl)
  obtain ⟨a1, a2⟩ := a
  obtain ⟨b1, b2⟩ := b
  simp only at HB hb
  cases h1 : decide (a1 < b1)
  · cases h2 : a1 == b1
    · go_enter Try.func52, Try.ntmps52
      go_wp2
      go_ret
      exact ⟨ret_bool (by rw [HB.out, h1, h2]; rfl), hb.out⟩
    · go_enter Try.func52, Try.ntmps52
      go_wp2
      go_ret
      exact ⟨ret_bool (by rw [HB.out, h1, h2]; rfl), hb.out⟩
  · go_enter Try.func52, Try.ntmps52
    go_wp2
    go_ret
    exact ⟨ret_bool (by rw [HB.out, h1]; rfl), hb.out⟩
set_option maxRecDepth 100000 in
theorem order_grow (w : World) (a b : Al) : Calls Try.prog 40 #[.agg #[.int .i64 a.1, .int .i64 a.2], .agg #[.int .i64 b.1, .int .i64 b.2]] w fun e w' => e = .returned (.int .i64 (cmpAl a b)) ∧ ∃ q os, w' = grow (w.drewN q) os := by
  have H1 := fun w => Lib.hid (less_grow w a b)
  have H2 := fun w => Lib.hid (less_grow w b a)
  have HC : Hid (cmpAl a b = if alLt a b = true then -1 else if alLt b a = true then 1 else 0) := Lib.hid rfl
  have hg : ∀ os, Hid (∃ q os', grow ((w.alloc (.cells #[.int .i64 a.1, .int .i64 a.2] 32)).alloc (.cells #[.int .i64 b.1, .int .i64 b.2] 32)) os = grow (w.drewN q) os') := fun os => Lib.hid ⟨0, _, by rw [alloc_eq_grow, alloc_eq_grow, grow_grow, grow_grow]; rfl⟩
  obtain ⟨a1, a2⟩ := a
  obtain ⟨b1, b2⟩ := b
  generalize alLt (a1, a2) (b1, b2) = x at *
  generalize alLt (b1, b2) (a1, a2) = y at *
  have o1 : obj ((w.alloc (.cells #[.int .i64 a1, .int .i64 a2] 32)).alloc (.cells #[.int .i64 b1, .int .i64 b2] 32)) w.heap.size = some (.cells #[.int .i64 a1, .int .i64 a2] 32 (0, 0)) := (obj_alloc_past _ _ _ (by simp)).trans (obj_alloc_at _ _ _ rfl)
  have o2 : obj ((w.alloc (.cells #[.int .i64 a1, .int .i64 a2] 32)).alloc (.cells #[.int .i64 b1, .int .i64 b2] 32)) (w.heap.size + 1) = some (.cells #[.int .i64 b1, .int .i64 b2] 32 (0, 0)) := obj_alloc_at _ _ _ (by simp)
  simp only at H1 H2 hg
  go_enter Try.func40, Try.ntmps40
  go_wp2_with fail
  generalize (w.alloc (.cells #[.int .i64 a1, .int .i64 a2] 32)).alloc (.cells #[.int .i64 b1, .int .i64 b2] 32) = w1 at *
  refine (H1 _).out.mono ?_
  rintro e w2 ⟨rfl, rfl⟩
  cases x
  · have p1 : obj (grow w1 #[.cells #[.int .i64 a1, .int .i64 a2] 32 (0, 0), .cells #[.int .i64 b1, .int .i64 b2] 32 (0, 0)]) w.heap.size = some (.cells #[.int .i64 a1, .int .i64 a2] 32 (0, 0)) := (Array.getElem?_append_left (lt_of_obj o1)).trans o1
    have p2 : obj (grow w1 #[.cells #[.int .i64 a1, .int .i64 a2] 32 (0, 0), .cells #[.int .i64 b1, .int .i64 b2] 32 (0, 0)]) (w.heap.size + 1) = some (.cells #[.int .i64 b1, .int .i64 b2] 32 (0, 0)) := (Array.getElem?_append_left (lt_of_obj o2)).trans o2
    go_wp2_with fail
    refine (H2 _).out.mono ?_
    rintro e w3 ⟨rfl, rfl⟩
    cases y
    · go_wp2
      go_ret
      exact ⟨ret_int (by rw [HC.out]; rfl), by rw [grow_grow]; exact (hg _).out⟩
    · go_wp2
      go_ret
      exact ⟨ret_int (by rw [HC.out]; rfl), by rw [grow_grow]; exact (hg _).out⟩
  · go_wp2
    go_ret
    exact ⟨ret_int (by rw [HC.out]; rfl), (hg _).out⟩
end Go.Proofs.Ytggpmepiggnnnaa
