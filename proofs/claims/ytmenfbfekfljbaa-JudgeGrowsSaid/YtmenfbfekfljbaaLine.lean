import Derived.Test.YtmenfbfekfljbaaFact
namespace Go.Proofs.Ytmenfbfekfljbaa
open Go.RowKit

/-- what a node accepted -/
def accB (node : Int) (x : FactD) : Bool := x.kind == 8 && x.node == node
def lineM (xs : List FactD) (node : Int) : List ID := (xs.filter (accB node)).map (·.id)
theorem take_succ_get {α : Type} (xs : List α) (k : Nat) (h : k < xs.length) : xs.take (k + 1) = xs.take k ++ [xs[k]] := by
  rw [List.take_succ_eq_append_getElem h]
theorem lineM_yes {xs : List FactD} {node : Int} {k : Nat} (h : k < xs.length) (hb : accB node xs[k] = true) : lineM (xs.take (k + 1)) node = lineM (xs.take k) node ++ [xs[k].id] := by
  unfold lineM
  rw [take_succ_get xs k h, List.filter_append, List.map_append]
  simp [List.filter_cons, hb]
theorem lineM_no {xs : List FactD} {node : Int} {k : Nat} (h : k < xs.length) (hb : accB node xs[k] = false) : lineM (xs.take (k + 1)) node = lineM (xs.take k) node := by
  unfold lineM
  rw [take_succ_get xs k h, List.filter_append, List.map_append]
  simp [List.filter_cons, hb]
theorem lineM_length (xs : List FactD) (node : Int) : (lineM xs node).length ≤ xs.length := by
  unfold lineM; rw [List.length_map]; exact List.length_filter_le _ _

set_option maxRecDepth 100000 in
set_option maxHeartbeats 400000 in
theorem line_any (w : World) (v : Value) (xs : List FactD) (node : Int) (h : SlIn w v 72 factL xs) (hlen : xs.length ≤ 1000) :
    Calls Try.prog 13 #[v, .int .i64 node] w (RetOwn w 45 32 idL (lineM xs node)) := by
  obtain ⟨oa, cap, rfl, h1, h2, h3⟩ := h
  unfold maxLen at h2
  have H3 := Lib.hid h3
  clear h3
  go_enter Try.func13, Try.ntmps13
  go_wp2
  go_loopw [5, 7, 10] (fun v5 _ v10 wr => ∃ k : Nat, k ≤ xs.length ∧ v10 = .int .i64 k ∧ OwnS wr w.heap.size 45 32 idL v5 (lineM (xs.take k) node) ∧ Below w.heap.size w wr) (fun _ _ i _ => xs.length - (intOf i).toNat)
  case atStart => exact ⟨0, Nat.zero_le _, rfl, OwnS.nil _ _ _ _ _, Below.refl _ _⟩
  case round =>
    obtain ⟨k, hk, rfl, hown, hb⟩ := hrel
    have hll : (lineM (xs.take k) node).length ≤ k := Nat.le_trans (lineM_length _ _) (List.length_take_le _ _)
    have hz := hb.size
    by_cases hlt : k < xs.length
    · obtain ⟨b, off, hoa, hbb, hrow⟩ := H3.out (by omega)
      subst hoa
      have hsub := hrow k hlt
      have hob : obj wr b = obj w b := obj_below hb hbb
      have hbr : b < wr.heap.size := Nat.lt_of_lt_of_le hbb hb.size
      have hy := lineM_yes (node := node) hlt
      have hn := lineM_no (node := node) hlt
      have HY := Lib.hid hy
      have HN := Lib.hid hn
      clear hrow hy hn
      generalize hx : xs[k] = x at hsub
      have HX := Lib.hid hx
      clear hx
      go_wp2_with (at_builtin; refine push45 rfl _ _ rfl w.heap.size _ (lineM (xs.take k) node) x.id rfl ((hown.alloc _).alloc _) (wr.heap.size + 1) rfl (by go_simp) (by omega) (by simp; omega) ?_; intro v' w1 hown1 hb1 _)
      · have e := HY.out (by rw [HX.out]; simp_all [accB])
        rw [HX.out] at e
        go_roundw
        case rel => exact ⟨k + 1, by omega, by go_num, by rw [e]; exact hown1, ((hb.alloc hz _).alloc (by simp; omega) _).trans hb1⟩
        case measure => simp [intOf]; omega
      all_goals
        have e := HN.out (by rw [HX.out]; simp_all [accB])
        go_roundw
        case rel => exact ⟨k + 1, by omega, by go_num, by rw [e]; exact hown.alloc _, hb.alloc hz _⟩
        case measure => simp [intOf]; omega
    · have hk' : k = xs.length := by omega
      subst hk'
      rw [List.take_length] at hown
      go_wp2
      go_ret
      exact ⟨_, rfl, hown, hb⟩
end Go.Proofs.Ytmenfbfekfljbaa
