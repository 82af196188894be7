import Derived.Test.YtkjaabajomigkaaVote
import Derived.Laws.StructEq
namespace Go.Proofs.Ytkjaabajomigkaa
open Go.RowKit

theorem isAgg27' (w : World) : (isAgg 27).run Try.prog w = .ok true w := by kernel_rfl
theorem isAgg3' (w : World) : (isAgg 3).run Try.prog w = .ok false w := by kernel_rfl
theorem fields33 : (Try.prog.fieldsOf 33).toList.map (fun f => (f.name == "_", f.type, f.offset)) = [(false, 27, 0), (false, 3, 32)] := by kernel_rfl
theorem under33 : Try.prog.underlying 33 = some (.struct (Try.prog.fieldsOf 33)) := by kernel_rfl
theorem held33 : Try.prog.stoodInHeld 33 = false := by kernel_rfl
theorem run_eqVt (d : Nat) (a b : Vt) : ∀ (fs : List Field), fs.map (fun f => (f.name == "_", f.type, f.offset)) = [(false, 27, 0), (false, 3, 32)] → ∀ w : World, (Op.eqFields (d + 2) (vtL a).toArray (vtL b).toArray fs).run Try.prog w = .ok (decide (a = b)) w := by
  intro fs h w
  rcases fs with _ | ⟨f1, _ | ⟨f2, _ | ⟨f3, r⟩⟩⟩
  · simp at h
  · simp at h
  · have hh := h
    obtain ⟨n1, t1, o1⟩ : (f1.name == "_") = false ∧ f1.type = 27 ∧ f1.offset = 0 := by simp at h; simp [h]
    obtain ⟨n2, t2, o2⟩ : (f2.name == "_") = false ∧ f2.type = 3 ∧ f2.offset = 32 := by simp at h; simp [h]
    have hs : ∀ w, (sizeOf 27).run Try.prog w = .ok 32 w := fun w => by simp [Try.sizeOf27]
    have e1 : ∀ x : Vt, (vtL x).toArray.extract 0 (0 + 32) = (idL x.id).toArray := fun x => vtL_id x
    have e2 : ∀ (d : Nat) (x y : Int) (w : World), (Op.equalIn (d + 1) 3 (.int .i64 x) (.int .i64 y)).run Try.prog w = .ok (x == y) w := fun d x y w => run_equalIn_int w d 3 .i64 .i64 x y Try.underlying3
    have e3 : ∀ x : Vt, (vtL x).toArray[32]? = some (.int .i64 x.n) := fun x => by rw [List.getElem?_toArray]; exact vtL_32 x
    have m1 : f1.name ≠ "_" := by simpa using n1
    have m2 : f2.name ≠ "_" := by simpa using n2
    simp only [Op.eqFields, if_pos m1, if_pos m2, t1, t2, o1, o2, part, isAgg27', isAgg3', Result.andThen_ok, if_true, Sem.run_bind, Sem.run_pure, hs, e1, run_eql27, e2, e3]
    obtain ⟨ai, an⟩ := a
    obtain ⟨bi, bn⟩ := b
    by_cases h1 : ai = bi
    · by_cases h2 : an = bn
      · simp [h1, h2, Sem.run_bind, isAgg3', e2]
      · simp [h1, h2, Sem.run_bind, isAgg3', e2]
    · simp [h1]
  · simp at h
@[go_sem] theorem guard33 (op : BinOp) (x y : Operand) (xs ys : Array Value) (w : World) : (eqGuard op 33 x y (.agg xs) (.agg ys)).run Try.prog w = .ok () w := run_eqGuard_agg w op 33 x y xs ys (by kernel_rfl)
@[go_sem] theorem run_eql33 (d : Nat) (a b : Vt) (w : World) : (Op.equalIn (d + 3) 33 (.agg (vtL a).toArray) (.agg (vtL b).toArray)).run Try.prog w = .ok (decide (a = b)) w := by
  rw [run_equalIn_struct w (d + 2) 33 _ _ under33 held33]
  exact run_eqVt d a b _ fields33 w
@[go_sem ↓] theorem neq33 (a b : Vt) (w : World) : (binOp .neq 33 (.agg (vtL a).toArray) (.agg (vtL b).toArray)).run Try.prog w = .ok (.bool (!decide (a = b))) w := by
  rw [run_neq_struct, run_eql33 9997]
  rfl
set_option maxRecDepth 100000 in
set_option maxHeartbeats 1000000 in
theorem equal_votes (w : World) (v1 v2 : Value) (xs ys : List Vt) (h : SlIn w v1 33 vtL xs) (h' : SlIn w v2 33 vtL ys) :
    Calls Try.prog 16 #[v1, v2] w fun e w' => e = .returned (.bool (decide (xs = ys))) ∧ Below w.heap.size w w' := by
  obtain ⟨oa, cap, rfl, h1, h2, h3⟩ := h
  obtain ⟨ob, cap', rfl, h1', h2', h3'⟩ := h'
  unfold maxLen at h2 h2'
  have H3 := Lib.hid h3
  have H3' := Lib.hid h3'
  clear h3 h3'
  by_cases hll : xs.length = ys.length
  · have hb0 : ((xs.length : Int) != (ys.length : Int)) = false := by simp [hll]
    have HLL := Lib.hid hll
    clear hll
    go_enter Try.func16, Try.ntmps16
    go_wp2
    go_loopw [5, 13] (fun _ v13 wr => ∃ k : Nat, k ≤ xs.length ∧ v13 = .int .i64 k ∧ Hid (∀ j (h1 : j < xs.length) (h2 : j < ys.length), j < k → xs[j] = ys[j]) ∧ Below w.heap.size w wr) (fun _ i _ => xs.length - (intOf i).toNat)
    case atStart => exact ⟨0, Nat.zero_le _, rfl, Lib.hid (by omega), Below.refl _ _⟩
    case round =>
      obtain ⟨k, hk, rfl, HK, hb⟩ := hrel
      by_cases hlt : k < xs.length
      · have hlt' : k < ys.length := by have := HLL.out; omega
        obtain ⟨b, off, hoa, hbb, hrow⟩ := H3.out (by omega)
        obtain ⟨b', off', hoa', hbb', hrow'⟩ := H3'.out (by omega)
        subst hoa
        subst hoa'
        have hs1 := hrow k hlt
        have hs2 := hrow' k hlt'
        rw [← obj_below hb hbb] at hs1
        rw [← obj_below hb hbb'] at hs2
        have hbl : b < wr.heap.size := Nat.lt_of_lt_of_le hbb hb.size
        have hbl' : b' < wr.heap.size := Nat.lt_of_lt_of_le hbb' hb.size
        have NX : Hid (xs[k] = ys[k] → ∀ j (h1 : j < xs.length) (h2 : j < ys.length), j < k + 1 → xs[j] = ys[j]) := Lib.hid (fun h j h1 h2 hlt' => by
            by_cases e : j = k
            · subst e; exact h
            · exact HK.out j h1 h2 (by omega))
        have NO : Hid (xs[k] ≠ ys[k] → xs ≠ ys) := Lib.hid (fun h e => h (by subst e; rfl))
        generalize xs[k] = x at *
        generalize ys[k] = y at *
        clear hrow hrow'
        by_cases hxy : x = y
        · have hd : decide (x = y) = true := by simpa using hxy
          have HN := Lib.hid (NX.out hxy)
          clear hxy
          go_wp2
          go_quiet (fail)
          go_wp2
          go_roundw
          case rel => exact ⟨k + 1, by omega, by go_num, HN, below_drewN hb _⟩
          case measure => simp [intOf]; omega
        · have hd : decide (x = y) = false := by simpa using hxy
          have HN := Lib.hid (NO.out hxy)
          clear hxy
          go_wp2
          go_quiet (fail)
          go_wp2
          go_ret
          exact ⟨ret_bool (by simpa using HN.out), below_drewN hb _⟩
      · have hk' : k = xs.length := by omega
        subst hk'
        go_wp2
        go_ret
        exact ⟨ret_bool (by simpa using List.ext_getElem HLL.out (fun j h1 h2 => HK.out j h1 h2 h1)), hb⟩
  · have hb0 : ((xs.length : Int) != (ys.length : Int)) = true := by simp; omega
    have HN : Hid (xs ≠ ys) := Lib.hid (fun e => hll (by rw [e]))
    clear hll
    go_enter Try.func16, Try.ntmps16
    go_wp2
    go_ret
    exact ⟨ret_bool (by simpa using HN.out), Below.refl _ _⟩

end Go.Proofs.Ytkjaabajomigkaa
