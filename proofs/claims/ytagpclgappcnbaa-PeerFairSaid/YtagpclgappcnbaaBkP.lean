import Derived.Test.YtagpclgappcnbaaBkX
namespace Go.Proofs.Ytagpclgappcnbaa
open Go.RowKit

/-! ### Check -/
@[reducible] def cfgC (c : CfgD) : Array Value := #[.int .i64 c.room, .int .i64 c.r.first, .int .i64 c.r.min, .int .i64 c.r.max, .int .i64 c.r.half, .int .i64 c.r.quart, .int .i64 c.q.f, .int .i64 c.q.lo, .int .i64 c.q.fo, .int .i64 c.q.nu, .int .i64 c.q.de]
open Classical in
noncomputable def mchk (r : Me.RuleD) : Int := if Me.RuleOk r then 0 else 130
theorem mcheck_any (r : Me.RuleD) (w : World) : Calls Try.prog 56 #[Me.ruleV r] w fun e w' => e = .returned (.int .i64 (mchk r)) ∧ Below w.heap.size w w' := by
  unfold mchk
  by_cases h : Me.RuleOk r
  · rw [if_pos h]; exact Me.check_ok r w h
  · rw [if_neg h]; exact Me.check_bad r w h
noncomputable def pchkE (c : CfgD) : Int := if c.room < 1 ∨ 1024 < c.room then 1 else if mchk c.r ≠ 0 then mchk c.r else Be.ruleE c.q
set_option maxRecDepth 100000 in
set_option maxHeartbeats 2000000 in
theorem pcheck_any (w : World) (c : CfgD) : Calls Try.prog 28 #[.agg (cfgC c)] w fun e w' => e = .returned (.int .i64 (pchkE c)) ∧ Below w.heap.size w w' := by
  have b1 : Below w.heap.size w (w.alloc (.cells (cfgC c) 27)) := (Below.refl _ w).alloc (Nat.le_refl _) _
  have OB := Lib.hid (show obj (w.alloc (.cells (cfgC c) 27)) w.heap.size = some (.cells (cfgC c) 27 (0, 0)) from obj_alloc_at _ _ _ rfl)
  have HM := Lib.hid (fun W => mcheck_any c.r W)
  have HB := Lib.hid (fun W => Be.rule_any c.q W)
  have HP : Hid (pchkE c = if c.room < 1 ∨ 1024 < c.room then 1 else if mchk c.r ≠ 0 then mchk c.r else Be.ruleE c.q) := Lib.hid rfl
  have B1 := Lib.hid b1
  generalize pchkE c = P at *
  generalize mchk c.r = m at *
  generalize Be.ruleE c.q = u at *
  unfold Me.ruleV at HM
  unfold Be.ruV at HB
  obtain ⟨room, ⟨r1, r2, r3, r4, r5⟩, ⟨q1, q2, q3, q4, q5⟩⟩ := c
  simp only [cfgC] at *
  have x0 := cell_at OB.out 0
  have x1 := cell_at OB.out 1
  have x2 := cell_at OB.out 2
  have x3 := cell_at OB.out 3
  have x4 := cell_at OB.out 4
  have x5 := cell_at OB.out 5
  simp at x0 x1 x2 x3 x4 x5
  clear b1
  go_enter Try.func28, Try.ntmps28
  by_cases h1 : room < 1
  · obtain rfl : P = 1 := by rw [HP.out, if_pos (.inl h1)]
    go_wp2_with fail
    go_ret
    exact ⟨rfl, B1.out⟩
  by_cases h2 : 1024 < room
  · obtain rfl : P = 1 := by rw [HP.out, if_pos (.inr h2)]
    go_wp2_with fail
    go_ret
    exact ⟨rfl, B1.out⟩
  go_wp2_with fail
  clear x0 x1 x2 x3 x4 x5
  generalize w.alloc (.cells #[.int .i64 room, .int .i64 r1, .int .i64 r2, .int .i64 r3, .int .i64 r4, .int .i64 r5, .int .i64 q1, .int .i64 q2, .int .i64 q3, .int .i64 q4, .int .i64 q5] 27) = w1 at *
  refine (HM.out w1).mono ?_
  rintro e w2 ⟨rfl, b2⟩
  have B2 : Hid (Below w.heap.size w w2) := Lib.hid (B1.out.trans (b2.mono B1.out.size))
  have O2 := (obj_below b2 (lt_of_obj OB.out)).trans OB.out
  have hb2 := lt_of_obj O2
  have x6 := cell_at O2 6
  have x7 := cell_at O2 7
  have x8 := cell_at O2 8
  have x9 := cell_at O2 9
  have x10 := cell_at O2 10
  simp at x6 x7 x8 x9 x10
  clear O2 b2
  by_cases hm : m = 0
  · obtain rfl : P = u := by rw [HP.out, if_neg (by omega), if_neg (by simpa using hm)]
    subst hm
    go_wp2_with fail
    refine (HB.out w2).mono ?_
    rintro e w3 ⟨rfl, b3⟩
    go_wp2_with fail
    go_ret
    exact ⟨rfl, B2.out.trans (b3.mono B2.out.size)⟩
  · obtain rfl : P = m := by rw [HP.out, if_neg (by omega), if_pos hm]
    go_wp2_with fail
    go_ret
    exact ⟨rfl, B2.out⟩
end Go.Proofs.Ytagpclgappcnbaa
