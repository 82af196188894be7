import Derived.Test.YtfejhekoijemdaaVote
import Derived.Laws.StructEq
import Derived.Test.YtfejhekoijemdaaDoneS
import Derived.Test.YtfejhekoijemdaaName
namespace Go.Proofs.Ytfejhekoijemdaa
open Go.RowKit

theorem isAgg37' (w : World) : (isAgg 37).run Try.prog w = .ok true w := by kernel_rfl
theorem isAgg3' (w : World) : (isAgg 3).run Try.prog w = .ok false w := by kernel_rfl
theorem fields58 : (Try.prog.fieldsOf 58).toList.map (fun f => (f.name == "_", f.type, f.offset)) = [(false, 37, 0), (false, 3, 32)] := by kernel_rfl
theorem under58 : Try.prog.underlying 58 = some (.struct (Try.prog.fieldsOf 58)) := by kernel_rfl
theorem held58 : Try.prog.stoodInHeld 58 = false := by kernel_rfl
theorem run_eqVt (d : Nat) (a b : Vt) : ∀ (fs : List Field), fs.map (fun f => (f.name == "_", f.type, f.offset)) = [(false, 37, 0), (false, 3, 32)] → ∀ w : World, (Op.eqFields (d + 2) (vtL a).toArray (vtL b).toArray fs).run Try.prog w = .ok (decide (a = b)) w := by
  intro fs h w
  rcases fs with _ | ⟨f1, _ | ⟨f2, _ | ⟨f3, r⟩⟩⟩
  · simp at h
  · simp at h
  · have hh := h
    obtain ⟨n1, t1, o1⟩ : (f1.name == "_") = false ∧ f1.type = 37 ∧ f1.offset = 0 := by simp at h; simp [h]
    obtain ⟨n2, t2, o2⟩ : (f2.name == "_") = false ∧ f2.type = 3 ∧ f2.offset = 32 := by simp at h; simp [h]
    have hs : ∀ w, (sizeOf 37).run Try.prog w = .ok 32 w := fun w => by simp [Try.sizeOf37]
    have e1 : ∀ x : Vt, (vtL x).toArray.extract 0 (0 + 32) = (idL x.id).toArray := fun x => vtL_id x
    have e2 : ∀ (d : Nat) (x y : Int) (w : World), (Op.equalIn (d + 1) 3 (.int .i64 x) (.int .i64 y)).run Try.prog w = .ok (x == y) w := fun d x y w => run_equalIn_int w d 3 .i64 .i64 x y Try.underlying3
    have e3 : ∀ x : Vt, (vtL x).toArray[32]? = some (.int .i64 x.n) := fun x => by rw [List.getElem?_toArray]; exact vtL_32 x
    have m1 : f1.name ≠ "_" := by simpa using n1
    have m2 : f2.name ≠ "_" := by simpa using n2
    simp only [Op.eqFields, if_pos m1, if_pos m2, t1, t2, o1, o2, part, isAgg37', isAgg3', Result.andThen_ok, if_true, Sem.run_bind, Sem.run_pure, hs, e1, run_eql37, e2, e3]
    obtain ⟨ai, an⟩ := a
    obtain ⟨bi, bn⟩ := b
    by_cases h1 : ai = bi
    · by_cases h2 : an = bn
      · simp [h1, h2, Sem.run_bind, isAgg3', e2]
      · simp [h1, h2, Sem.run_bind, isAgg3', e2]
    · simp [h1]
  · simp at h
@[go_sem] theorem guard58 (op : BinOp) (x y : Operand) (xs ys : Array Value) (w : World) : (eqGuard op 58 x y (.agg xs) (.agg ys)).run Try.prog w = .ok () w := run_eqGuard_agg w op 58 x y xs ys (by kernel_rfl)
@[go_sem] theorem run_eql58 (d : Nat) (a b : Vt) (w : World) : (Op.equalIn (d + 3) 58 (.agg (vtL a).toArray) (.agg (vtL b).toArray)).run Try.prog w = .ok (decide (a = b)) w := by
  rw [run_equalIn_struct w (d + 2) 58 _ _ under58 held58]
  exact run_eqVt d a b _ fields58 w
@[go_sem ↓] theorem neq58 (a b : Vt) (w : World) : (binOp .neq 58 (.agg (vtL a).toArray) (.agg (vtL b).toArray)).run Try.prog w = .ok (.bool (!decide (a = b))) w := by
  rw [run_neq_struct, run_eql58 9997]
  rfl
end Go.Proofs.Ytfejhekoijemdaa
namespace Go.Proofs.Ytfejhekoijemdaa
open Go.RowKit

theorem row_vt {w : World} {b off : Nat} {xs : List Vt} (h : RowAt w b off 33 vtL xs) {k : Nat} (hk : k < xs.length) : subOf (obj w b) (off + k * 33) 33 = some (vtL xs[k]).toArray := h k hk
set_option maxRecDepth 100000 in
set_option maxHeartbeats 1000000 in
/-- flurryref18.SameVotes -/
theorem sameV_any (w : World) (u v : Value) (a c : List Vt) (h1 : SlIn w u 33 vtL a) (h2 : SlIn w v 33 vtL c) :
    Calls Try.prog 48 #[u, v] w fun e w' => e = .returned (.bool (decide (a = c))) ∧ Below w.heap.size w w' := by
  obtain ⟨oa, ca, rfl, p1, p2, p3⟩ := h1
  obtain ⟨oc, cc, rfl, q1, q2, q3⟩ := h2
  unfold maxLen at p2 q2
  have P3 := Lib.hid p3
  have Q3 := Lib.hid q3
  clear p3 q3
  by_cases hl : a.length = c.length
  · have HL := Lib.hid hl
    obtain ⟨n, hn⟩ : ∃ n, n = a.length := ⟨_, rfl⟩
    have hn2 : c.length = n := by omega
    have HA := Lib.hid hn
    have HC := Lib.hid hn2
    rw [← hn] at p1 ⊢
    rw [hn2] at q1 ⊢
    clear hl hn hn2
    go_enter Try.func48, Try.ntmps48
    go_wp2_with fail
    go_loopw [5] (fun v5 wr => ∃ k : Nat, k ≤ n ∧ v5 = .int .i64 k ∧ Hid (a.take k = c.take k) ∧ Hid (Below w.heap.size w wr)) (fun i _ => n - (intOf i).toNat)
    case atStart => exact ⟨0, Nat.zero_le _, rfl, Lib.hid rfl, Lib.hid (Below.refl _ _)⟩
    case round =>
      obtain ⟨k, hk, rfl, HE, HB⟩ := hrel
      by_cases hlt : k < n
      · have hka : k < a.length := by rw [← HA.out]; exact hlt
        have hkc : k < c.length := by rw [HC.out]; exact hlt
        obtain ⟨b1, o1, rfl, hb1, hr1⟩ := P3.out (by omega)
        obtain ⟨b2, o2, rfl, hb2, hr2⟩ := Q3.out (by omega)
        have s1 := hr1 k hka
        have s2 := hr2 k hkc
        rw [← obj_below HB.out hb1] at s1
        rw [← obj_below HB.out hb2] at s2
        have hz := HB.out.size
        have l1 : b1 < wr.heap.size := by omega
        have l2 : b2 < wr.heap.size := by omega
        have m1 : o1 + k * 33 + 33 ≤ o1 + k * 33 + 33 := Nat.le_refl _
        have NX : Hid (a[k] = c[k] → a.take (k + 1) = c.take (k + 1)) := Lib.hid (fun e => by rw [List.take_succ_eq_append_getElem hka, List.take_succ_eq_append_getElem hkc, HE.out, e])
        have NO : Hid (¬ a[k] = c[k] → decide (a = c) = false) := Lib.hid (fun e => by simp; rintro rfl; exact e rfl)
        clear hr1 hr2 hb1 hb2
        generalize a[k] = x at *
        generalize c[k] = y at *
        clear hka hkc
        by_cases hxy : x = y
        · have d0 : decide (x = y) = true := by simpa using hxy
          have NX2 := Lib.hid (NX.out hxy)
          clear hxy NX NO
          go_wp2
          go_quiet (fail)
          go_wp2
          go_roundw
          case rel => exact ⟨k + 1, by omega, by go_num, NX2, Lib.hid (below_drewN HB.out _)⟩
          case measure => simp [intOf]; omega
        · have d0 : decide (x = y) = false := by simpa using hxy
          have NO2 := Lib.hid (NO.out hxy)
          clear hxy NX NO
          go_wp2
          go_quiet (fail)
          go_wp2
          go_ret
          exact ⟨ret_bool NO2.out.symm, below_drewN HB.out _⟩
      · have hk' : k = n := by omega
        subst hk'
        have HR : Hid (decide (a = c) = true) := Lib.hid (by
          have e := HE.out
          rw [List.take_of_length_le (by rw [← HA.out]; exact Nat.le_refl _), List.take_of_length_le (by rw [HC.out]; exact Nat.le_refl _)] at e
          simpa using e)
        go_wp2
        go_ret
        exact ⟨ret_bool HR.out.symm, HB.out⟩
  · have e0 : ((a.length : Int) != (c.length : Int)) = true := by simp; omega
    have HR : Hid (decide (a = c) = false) := Lib.hid (by simp; intro e; exact hl (by rw [e]))
    clear hl
    go_enter Try.func48, Try.ntmps48
    go_wp2
    go_ret
    exact ⟨ret_bool HR.out.symm, Below.refl _ _⟩
end Go.Proofs.Ytfejhekoijemdaa
namespace Go.Proofs.Ytfejhekoijemdaa
open Go.RowKit

set_option maxRecDepth 100000 in
set_option maxHeartbeats 2000000 in
/-- flurryref18.SameEnds, of the same polls' ends -/
theorem sameEnds_yes (w : World) (V1 V2 : Nat → Prop) (u v : Value) (es fs : List EndM) (l : List OneM) (h1 : SlIn w u 3 endL es) (h2 : SlIn w v 3 endL fs) (e1 : EndsAt w V1 es l) (e2 : EndsAt w V2 fs l) :
    Calls Try.prog 28 #[u, v] w fun e w' => e = .returned (.bool true) ∧ Below w.heap.size w w' := by
  obtain ⟨oa, ca, rfl, p1, p2, p3⟩ := h1
  obtain ⟨oc, cc, rfl, q1, q2, q3⟩ := h2
  unfold maxLen at p2 q2
  have P3 := Lib.hid p3
  have Q3 := Lib.hid q3
  have E1 := Lib.hid e1
  have E2 := Lib.hid e2
  obtain ⟨n, hn⟩ : ∃ n, n = es.length := ⟨_, rfl⟩
  have hn2 : fs.length = n := by rw [e2.1, hn, e1.1]
  have HA := Lib.hid hn
  have HC := Lib.hid hn2
  rw [← hn] at p1 ⊢
  rw [hn2] at q1 ⊢
  clear hn hn2 p3 q3 e1 e2
  go_enter Try.func28, Try.ntmps28
  go_wp2_with fail
  go_loopw [5] (fun v5 wr => ∃ k : Nat, k ≤ n ∧ v5 = .int .i64 k ∧ Hid (Below w.heap.size w wr)) (fun i _ => n - (intOf i).toNat)
  case atStart => exact ⟨0, Nat.zero_le _, rfl, Lib.hid (Below.refl _ _)⟩
  case round =>
    obtain ⟨k, hk, rfl, HB⟩ := hrel
    by_cases hlt : k < n
    · have hka : k < es.length := by rw [← HA.out]; exact hlt
      have hkc : k < fs.length := by rw [HC.out]; exact hlt
      have hkl : k < l.length := by rw [← E1.out.1]; exact hka
      obtain ⟨b1, o1, rfl, hb1, hr1⟩ := P3.out (by omega)
      obtain ⟨b2, o2, rfl, hb2, hr2⟩ := Q3.out (by omega)
      have s1 := hr1 k hka
      have s2 := hr2 k hkc
      rw [← obj_below HB.out hb1] at s1
      rw [← obj_below HB.out hb2] at s2
      have hz := HB.out.size
      have l1 : b1 < wr.heap.size := by omega
      have l2 : b2 < wr.heap.size := by omega
      have x1 := E1.out.2 k es[k] l[k] (List.getElem?_eq_getElem hka) (List.getElem?_eq_getElem hkl)
      have x2 := E2.out.2 k fs[k] l[k] (List.getElem?_eq_getElem hkc) (List.getElem?_eq_getElem hkl)
      have hi : es[k].id = fs[k].id := x1.id.trans x2.id.symm
      have hs : es[k].slots = fs[k].slots := x1.slots.trans x2.slots.symm
      have y1 := x1.vt.1.below HB.out
      have y2 := x2.vt.1.below HB.out
      clear hr1 hr2 hb1 hb2 x1 x2
      generalize l[k].votes = vs at *
      generalize es[k] = x at *
      generalize fs[k] = y at *
      obtain ⟨i1, a1, n1, c1, t1⟩ := x
      obtain ⟨i2, a2, n2, c2, t2⟩ := y
      simp only at hi hs
      subst hi hs
      have f10 : wr.cell? ⟨b1, o1 + k * 3, none⟩ = some (.int .i64 i1) := by have := subOf_cell s1 (j := 0) (by decide); simpa [endL] using this
      have f11 : wr.cell? ⟨b1, o1 + k * 3 + 1, none⟩ = some (.slice a1 n1 c1) := by have := subOf_cell s1 (j := 1) (by decide); simpa [endL] using this
      have f12 : wr.cell? ⟨b1, o1 + k * 3 + 2, none⟩ = some (.int .i64 t1) := by have := subOf_cell s1 (j := 2) (by decide); simpa [endL] using this
      have f20 : wr.cell? ⟨b2, o2 + k * 3, none⟩ = some (.int .i64 i1) := by have := subOf_cell s2 (j := 0) (by decide); simpa [endL] using this
      have f21 : wr.cell? ⟨b2, o2 + k * 3 + 1, none⟩ = some (.slice a2 n2 c2) := by have := subOf_cell s2 (j := 1) (by decide); simpa [endL] using this
      have f22 : wr.cell? ⟨b2, o2 + k * 3 + 2, none⟩ = some (.int .i64 t1) := by have := subOf_cell s2 (j := 2) (by decide); simpa [endL] using this
      have HV : Hid (∀ x : Later wr, Calls Try.prog 48 #[.slice a1 n1 c1, .slice a2 n2 c2] x.w fun e w' => e = .returned (.bool true) ∧ Below x.w.heap.size x.w w') := Lib.hid (fun x => by
        have := sameV_any x.w _ _ vs vs (y1.below x.h) (y2.below x.h)
        rw [decide_eq_true rfl] at this
        exact this)
      clear s1 s2 y1 y2 hka hkc hkl
      go_wp2_with fail
      refine wp_region_later wr (Below.refl _ _) (by kernel_rfl) (by kernel_rfl) ?_
      repeat (go_big_quiet_step (first | (go_at_call 48; with_reducible exact Calls.later (HV.out _))))
      refine wpQuiet_nil ?_
      intro _ hx
      obtain ⟨⟨w3, b3⟩, hx⟩ := hx
      subst hx
      rename_i w3
      have B3 := Lib.hid (HB.out.trans (b3.mono HB.out.size))
      clear b3
      go_wp2_with fail
      go_roundw
      case rel => exact ⟨k + 1, by omega, by go_num, B3⟩
      case measure => simp [intOf]; omega
    · go_wp2
      go_ret
      exact ⟨rfl, HB.out⟩
end Go.Proofs.Ytfejhekoijemdaa
