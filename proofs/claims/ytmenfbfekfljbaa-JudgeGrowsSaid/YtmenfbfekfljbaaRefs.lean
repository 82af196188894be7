import Derived.Test.YtmenfbfekfljbaaLine
namespace Go.Proofs.Ytmenfbfekfljbaa
open Go.RowKit

set_option maxRecDepth 100000 in
set_option maxHeartbeats 400000 in
theorem ref_line_any (w : World) (v : Value) (xs : List FactD) (node : Int) (h : SlIn w v 72 factL xs) (hlen : xs.length ≤ 1000) :
    Calls Try.prog 14 #[v, .int .i64 node] w (RetOwn w 45 32 idL (lineM xs node)) := by
  obtain ⟨oa, cap, rfl, h1, h2, h3⟩ := h
  unfold maxLen at h2
  have H3 := Lib.hid h3
  clear h3
  go_enter Try.func14, Try.ntmps14
  go_wp2
  go_loopw [5, 6] (fun v5 v10 wr => ∃ k : Nat, k ≤ xs.length ∧ v10 = .int .i64 k ∧ OwnS wr w.heap.size 45 32 idL v5 (lineM (xs.take k) node) ∧ Below w.heap.size w wr) (fun _ i _ => xs.length - (intOf i).toNat)
  case atStart => exact ⟨0, Nat.zero_le _, rfl, OwnS.nil _ _ _ _ _, Below.refl _ _⟩
  case round =>
    obtain ⟨k, hk, rfl, hown, hb⟩ := hrel
    have hll : (lineM (xs.take k) node).length ≤ k := Nat.le_trans (lineM_length _ _) (List.length_take_le _ _)
    have hz := hb.size
    by_cases hlt : k < xs.length
    · obtain ⟨b, off, hoa, hbb, hrow⟩ := H3.out (by omega)
      subst hoa
      have hsub := hrow k hlt
      rw [← obj_below hb hbb] at hsub
      have hbr : b < wr.heap.size := Nat.lt_of_lt_of_le hbb hb.size
      have HY := Lib.hid (lineM_yes (node := node) hlt)
      have HN := Lib.hid (lineM_no (node := node) hlt)
      generalize hx : xs[k] = x at hsub
      have HX := Lib.hid hx
      obtain ⟨⟨_, c1, c2, _⟩, ⟨s4, _⟩, _⟩ := fact_parts hsub
      clear hx hrow hsub
      go_wp2_with (at_builtin; refine push45 rfl _ _ rfl w.heap.size _ (lineM (xs.take k) node) x.id rfl (hown.alloc _) wr.heap.size rfl (by go_simp) (by omega) (by simp; omega) ?_; intro v' w1 hown1 hb1 _)
      · have e := HY.out (by rw [HX.out]; simp_all [accB])
        rw [HX.out] at e
        go_roundw
        case rel => exact ⟨k + 1, by omega, by go_num, by rw [e]; exact hown1, (hb.alloc hz _).trans hb1⟩
        case measure => simp [intOf]; omega
      all_goals
        have e := HN.out (by rw [HX.out]; simp_all [accB])
        go_roundw
        case rel => exact ⟨k + 1, by omega, by go_num, by rw [e]; exact hown, hb⟩
        case measure => simp [intOf]; omega
    · have hk' : k = xs.length := by omega
      subst hk'
      rw [List.take_length] at hown
      go_wp2
      go_ret
      exact ⟨_, rfl, hown, hb⟩

/-- a name's parent -/
def parM (xs : List FactD) (a : ID) : Option ID := (xs.find? fun x => x.kind == 1 && decide (x.id = a)).map (·.other)
def parV (o : Option ID) : Value := match o with | some p => .tuple #[.agg (idL p).toArray, .bool true] | none => .tuple #[.agg (idL ID.zero).toArray, .bool false]
theorem parM_hit {xs : List FactD} {a : ID} {k : Nat} (h : k < xs.length) (hn : parM (xs.take k) a = none) (hb : xs[k].kind = 1) (hb2 : xs[k].id = a) : parM xs a = some xs[k].other := by
  unfold parM at hn ⊢
  simp only [Option.map_eq_none_iff] at hn
  have e : xs = xs.take k ++ xs[k] :: xs.drop (k + 1) := by simp
  have e2 := congrArg (List.find? fun x : FactD => x.kind == 1 && decide (x.id = a)) e
  rw [List.find?_append, hn] at e2
  rw [e2, List.find?_cons_of_pos (by simp [hb, hb2])]
  rfl
theorem parM_miss {xs : List FactD} {a : ID} {k : Nat} (h : k < xs.length) (hn : parM (xs.take k) a = none) (hb : ¬ (xs[k].kind = 1 ∧ xs[k].id = a)) : parM (xs.take (k + 1)) a = none := by
  unfold parM at hn ⊢
  simp only [Option.map_eq_none_iff] at hn ⊢
  rw [take_succ_get xs k h, List.find?_append, hn]
  simpa using hb

set_option maxRecDepth 100000 in
set_option maxHeartbeats 400000 in
theorem ref_parent_any (w : World) (v : Value) (xs : List FactD) (a : ID) (h : SlIn w v 72 factL xs) (hlen : xs.length ≤ 1000) :
    Calls Try.prog 19 #[v, .agg (idL a).toArray] w fun e w' => e = .returned (parV (parM xs a)) ∧ Below w.heap.size w w' := by
  obtain ⟨oa, cap, rfl, h1, h2, h3⟩ := h
  unfold maxLen at h2
  have H3 := Lib.hid h3
  clear h3
  go_enter Try.func19, Try.ntmps19
  go_wp2
  go_loopw [6] (fun v6 wr => ∃ k : Nat, k ≤ xs.length ∧ v6 = .int .i64 k ∧ Hid (parM (xs.take k) a = none) ∧ Below w.heap.size w wr ∧ Hid (obj wr w.heap.size = some (.cells (idL a).toArray 45 (0, 0))) ∧ Hid (obj wr (w.heap.size + 1) = some (.cells (idL ID.zero).toArray 45 (0, 0)))) (fun i _ => xs.length - (intOf i).toNat)
  case atStart => exact ⟨0, Nat.zero_le _, rfl, Lib.hid (by simp [parM]), ((Below.refl _ w).alloc (Nat.le_refl _) _).alloc (by simp) _, Lib.hid (by simp [go_sem]), Lib.hid (by simp [go_sem])⟩
  case round =>
    obtain ⟨k, hk, rfl, HM, hb, o1, o2⟩ := hrel
    have o1 := o1.out
    have o2 := o2.out
    have hz := lt_of_obj o2
    have hz1 := lt_of_obj o1
    by_cases hlt : k < xs.length
    · obtain ⟨b, off, hoa, hbb, hrow⟩ := H3.out (by omega)
      subst hoa
      have hsub := hrow k hlt
      rw [← obj_below hb hbb] at hsub
      have hbr : b < wr.heap.size := Nat.lt_of_lt_of_le hbb hb.size
      have HY : Hid (_) := Lib.hid (parM_hit (a := a) hlt HM.out)
      have HN : Hid (_) := Lib.hid (parM_miss (a := a) hlt HM.out)
      generalize hx : xs[k] = x at hsub
      have HX := Lib.hid hx
      obtain ⟨⟨_, c1, c2, _⟩, ⟨s4, s36⟩, _⟩ := fact_parts hsub
      clear hx hrow hsub
      by_cases hk1 : x.kind = 1
      · have hd1 : (x.kind == 1) = true := by simpa using hk1
        by_cases hid : x.id = a
        · have hd2 : decide (x.id = a) = true := by simpa using hid
          have e := HY.out (by rw [HX.out]; exact hk1) (by rw [HX.out]; exact hid)
          rw [HX.out] at e
          have HE := Lib.hid e
          clear e hk1 hid
          go_wp2
          go_quiet (fail)
          go_wp2
          rw [HE.out]
          refine bodyPost_ret (results_cell_tmp (v := .agg (idL x.other).toArray) Try.results19 _ rfl (by simp [go_sem, o2, hz])) rfl ⟨rfl, ?_⟩
          exact below_drewN (below_putObj hb (by omega) _) _
        · have hd2 : decide (x.id = a) = false := by simpa using hid
          have HE := Lib.hid (HN.out (by rw [HX.out]; exact fun h => hid h.2))
          clear hk1 hid
          go_wp2
          go_quiet (fail)
          go_wp2
          go_roundw
          case rel => exact ⟨k + 1, by omega, by go_num, HE, below_drewN hb _, Lib.hid o1, Lib.hid o2⟩
          case measure => simp [intOf]; omega
      · have hd1 : (x.kind == 1) = false := by simpa using hk1
        have HE := Lib.hid (HN.out (by rw [HX.out]; exact fun h => hk1 h.1))
        clear hk1
        go_wp2
        go_quiet (fail)
        go_wp2
        go_roundw
        case rel => exact ⟨k + 1, by omega, by go_num, HE, below_drewN hb _, Lib.hid o1, Lib.hid o2⟩
        case measure => simp [intOf]; omega
    · have hk' : k = xs.length := by omega
      subst hk'
      have HE := HM.out
      rw [List.take_length] at HE
      have HE' := Lib.hid HE
      clear HE
      go_wp2
      rw [HE'.out]
      refine bodyPost_ret (results_cell_tmp (v := .agg (idL ID.zero).toArray) Try.results19 _ rfl (by simp [go_sem, o2, hz])) rfl ⟨rfl, ?_⟩
      exact below_putObj hb (by omega) _
end Go.Proofs.Ytmenfbfekfljbaa
