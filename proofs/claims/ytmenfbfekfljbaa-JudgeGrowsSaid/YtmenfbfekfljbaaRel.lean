import Derived.Test.YtmenfbfekfljbaaPath
import Derived.Test.YtmenfbfekfljbaaPred
import Derived.Deep.RegionHeld3
namespace Go.Proofs.Ytmenfbfekfljbaa
open Go.RowKit

def relV (ub m : Nat) : Value := .agg #[.map (some m), .func (.func 63) #[] #[.pointer (some ⟨ub, 0, none⟩)]]
def RetRel (w : World) (xs : List FactD) (e : Ending) (w' : World) : Prop := ∃ ub m, e = .returned (.agg #[.map (some m), .func (.func 63) #[] #[.pointer (some ⟨ub, 0, none⟩)]]) ∧ RelAt w' ub m xs ∧ Below w.heap.size w w' ∧ w.heap.size ≤ ub ∧ w.heap.size ≤ m
theorem MapK.below {α ν : Type} {ek : α → Value} {enc : ν → Value} {w W : World} {m : Nat} {L : List (α × ν)} (h : MapK w m ek enc L) (hb : Below w.heap.size w W) : MapK W m ek enc L := h.of_obj (obj_below hb h.lt)
set_option maxRecDepth 100000 in
set_option maxHeartbeats 1000000 in
theorem related_any (w : World) (v : Value) (xs : List FactD) (h : SlIn w v 72 factL xs) (hlen : xs.length ≤ 1000) :
    Calls Try.prog 41 #[v] w (RetRel w xs) := by
  have HP := Lib.hid fun W (hb : Below w.heap.size w W) => parents_any W v xs (h.below hb) hlen
  clear h
  have hmf : ∀ (fn : Fn) (first cap : Array Value) (w : World), (Instr.makeFunc fn first cap).run Try.prog w = .ok (.func fn first cap) w := fun _ _ _ _ => rfl
  go_enter Try.func41, Try.ntmps41
  go_wp2_with fail
  refine (HP.out _ ((Below.refl _ w).alloc (Nat.le_refl _) _)).mono ?_
  rintro e w1 ⟨rfl, hm1, hb1⟩
  have ho : obj w1 w.heap.size = some (.cells #[.map none, .nilFunc] 85 (0, 0)) := (obj_below hb1 (by simp)).trans (obj_alloc_at _ _ _ rfl)
  have z1 := lt_of_obj ho
  have b1 : Below w.heap.size w w1 := ((Below.refl _ w).alloc (Nat.le_refl _) _).trans (hb1.mono (by simp))
  have hm1' := Lib.hid hm1
  clear hm1
  go_wp2
  refine bodyPost_ret (results_cell (v := relV w1.heap.size (w.heap.size + 1)) Try.results41 _ rfl (by simp [go_sem, z1, relV])) rfl ⟨_, _, rfl, ⟨?_, ?_⟩, ?_, by omega, by omega⟩
  · simp [go_sem]
  · have := hm1'.out
    rw [World.size_alloc] at this
    exact this.of_obj ((obj_alloc_past _ _ _ (by rw [size_putObj]; exact this.lt)).trans (obj_putObj_ne _ _ _ _ (by omega)))
  · exact (below_putObj b1 (Nat.le_refl _) _).alloc (by rw [size_putObj]; omega) _

/-- the relation's 'conflict', as the code says it -/
theorem info45_len (a : ID) : (Try.prog.info? 45).map (·.size) = some (idL a).length := by
  obtain ⟨ie, hi, _, h2, _⟩ := info_parts info45
  rw [hi, idL_length, Option.map_some, h2]
theorem rangeAt_obj {W : World} {b : Nat} {cs : List Value} {T : TypeId} {fr : Nat × Nat} (h : obj W b = some (.cells cs.toArray T fr)) : W.rangeAt b 0 cs := fun j v hj => by
  rw [cell_at h]; simpa using hj
theorem kGet_isSome (xs : List FactD) (a : ID) : (kGet a (upM xs)).isSome = (parM xs a).isSome := by rw [up_par]
theorem eg63 : ∀ args w, (callFunc 63 args).run Try.prog w = .ok (.enter 63 args) w := enters_of Try.func63 (by kernel_rfl) rfl
set_option maxRecDepth 100000 in
set_option maxHeartbeats 2000000 in
theorem conflict_any (w : World) (ub m : Nat) (xs : List FactD) (a b : ID) (h : RelAt w ub m xs) :
    Calls Try.prog 43 #[relV ub m, .agg (idL a).toArray, .agg (idL b).toArray] w fun e w' => e = .returned (.bool (conflictR xs a b)) ∧ Below w.heap.size w w' := by
  have HC : Hid (conflictR xs a b = ((parM xs a).isSome && (parM xs b).isSome && !underM xs a b && !underM xs b a)) := Lib.hid rfl
  have HA := Lib.hid fun W (hb : Below w.heap.size w W) => under_any W ub m xs a b (h.below hb)
  have HB := Lib.hid fun W (hb : Below w.heap.size w W) => under_any W ub m xs b a (h.below hb)
  obtain ⟨hbox, hmap⟩ := h
  have hub := lt_of_obj hbox
  obtain ⟨es, clk, ho, hr⟩ := hmap
  have hm := lt_of_obj ho
  have l1 := look82 (m := m) (clk := clk) hr a
  have l2 := look82 (m := m) (clk := clk) hr b
  rw [up_par] at l1 l2
  generalize parM xs a = p1 at *
  generalize parM xs b = p2 at *
  generalize underM xs a b = y1 at *
  generalize underM xs b a = y2 at *
  have m1 : m < w.heap.size + 1 := by omega
  have m2 : m < w.heap.size + 1 + 1 := by omega
  have m3 : m < w.heap.size + 1 + 1 + 1 := by omega
  have m4 : m < w.heap.size + 2 := by omega
  have m5 : m < w.heap.size + 3 := by omega
  unfold relV
  go_enter Try.func43, Try.ntmps43
  cases p1 with
  | none =>
    go_wp2
    go_ret
    exact ⟨ret_bool (by rw [HC.out]; rfl), (((((Below.refl _ w).alloc (Nat.le_refl _) _).alloc (by simp) _).alloc (by simp; omega) _).alloc (by simp; omega) _).alloc (by simp; omega) _⟩
  | some q1 =>
    cases p2 with
    | none =>
      go_wp2
      go_ret
      exact ⟨ret_bool (by rw [HC.out]; rfl), (((((Below.refl _ w).alloc (Nat.le_refl _) _).alloc (by simp) _).alloc (by simp; omega) _).alloc (by simp; omega) _).alloc (by simp; omega) _⟩
    | some q2 =>
      go_wp2_with fail
      have bw : Below w.heap.size w (((((w.alloc (.cells #[.map (some m), .func (.func 63) #[] #[.pointer (some ⟨ub, 0, none⟩)]] 85)).alloc (.cells (idL a).toArray 45)).alloc (.cells (idL b).toArray 45)).alloc (.cells (idL q1).toArray 45)).alloc (.cells (idL q2).toArray 45)) :=
        (((((Below.refl _ w).alloc (Nat.le_refl _) _).alloc (by simp) _).alloc (by simp; omega) _).alloc (by simp; omega) _).alloc (by simp; omega) _
      refine (HA.out _ bw).mono ?_
      rintro e w3 ⟨rfl, hb3⟩
      have b3 : Below w.heap.size w w3 := bw.trans (hb3.mono (by simp; omega))
      have r0 : obj w3 w.heap.size = some (.cells #[.map (some m), .func (.func 63) #[] #[.pointer (some ⟨ub, 0, none⟩)]] 85 (0, 0)) := (obj_below hb3 (by first | (simp; done) | (simp; omega))).trans (by simp [go_sem])
      have r1 : w3.cell? ⟨w.heap.size, 1, none⟩ = some (.func (.func 63) #[] #[.pointer (some ⟨ub, 0, none⟩)]) := cell_at r0 1
      have r2 : obj w3 (w.heap.size + 1) = some (.cells (idL a).toArray 45 (0, 0)) := (obj_below hb3 (by first | (simp; done) | (simp; omega))).trans (by simp [go_sem])
      have r3 : obj w3 (w.heap.size + 1 + 1) = some (.cells (idL b).toArray 45 (0, 0)) := (obj_below hb3 (by first | (simp; done) | (simp; omega))).trans (by simp [go_sem])
      clear hb3 bw
      cases y1
      · go_wp2_with fail
        refine (HB.out _ b3).mono ?_
        rintro e w4 ⟨rfl, hb4⟩
        have b4 : Below w.heap.size w w4 := b3.trans (hb4.mono (by have := b3.size; omega))
        cases y2
        · go_wp2
          go_ret
          exact ⟨ret_bool (by rw [HC.out]; rfl), b4⟩
        · go_wp2
          go_ret
          exact ⟨ret_bool (by rw [HC.out]; rfl), b4⟩
      · go_wp2
        go_ret
        exact ⟨ret_bool (by rw [HC.out]; rfl), b3⟩

theorem run_field85 (x y : Value) (W : World) : (do pure (Next.value (← Instr.field 85 (.agg #[x, y]) 1)) : Sem Next).run Try.prog W = .ok (.value y) W := by kernel_rfl
set_option maxRecDepth 100000 in
theorem judge_under_any (w : World) (v : Value) (xs : List FactD) (a b : ID) (h : SlIn w v 72 factL xs) (hlen : xs.length ≤ 1000) :
    Calls Try.prog 17 #[v, .agg (idL a).toArray, .agg (idL b).toArray] w fun e w' => e = .returned (.bool (underM xs a b)) ∧ Below w.heap.size w w' := by
  have HR := Lib.hid fun W (hb : Below w.heap.size w W) => related_any W v xs (h.below hb) hlen
  have HU := Lib.hid fun W ub m (hr : RelAt W ub m xs) => under_any W ub m xs a b hr
  clear h
  generalize underM xs a b = r at *
  go_enter Try.func17, Try.ntmps17
  go_wp2_with fail
  have bw : Below w.heap.size w ((w.alloc (.cells (idL a).toArray 45)).alloc (.cells (idL b).toArray 45)) := ((Below.refl _ w).alloc (Nat.le_refl _) _).alloc (by simp) _
  have p0 : obj ((w.alloc (.cells (idL a).toArray 45)).alloc (.cells (idL b).toArray 45)) w.heap.size = some (.cells (idL a).toArray 45 (0, 0)) := by simp [go_sem]
  have p1 : obj ((w.alloc (.cells (idL a).toArray 45)).alloc (.cells (idL b).toArray 45)) (w.heap.size + 1) = some (.cells (idL b).toArray 45 (0, 0)) := by simp [go_sem]
  generalize (w.alloc (.cells (idL a).toArray 45)).alloc (.cells (idL b).toArray 45) = w2 at *
  have z1 := lt_of_obj p1
  have hsz := bw.size
  refine wp_region_held_drew (S := fun W => Below w2.heap.size w2 W) (by kernel_rfl) (Below.refl _ _).drew (fun hS => ?_)
  have y0 : ∀ W, Below w2.heap.size w2 W → (loadAgg 45 ⟨w.heap.size, 0, none⟩).run Try.prog W = .ok (.agg (idL a).toArray) W := fun W hW => by
    have := (obj_below hW (by omega)).trans p0
    simp [go_sem, this]
  have y1 : ∀ W, Below w2.heap.size w2 W → (loadAgg 45 ⟨w.heap.size + 1, 0, none⟩).run Try.prog W = .ok (.agg (idL b).toArray) W := fun W hW => by
    have := (obj_below hW z1).trans p1
    simp [go_sem, this]
  refine wpAnyH_take (i := 0) rfl (by kernel_rfl) (by kernel_rfl) (by kernel_rfl) (fun _ _ _ h => h) (yieldsIf_move rfl _ rfl) hS ?_
  refine wpAnyH_take (i := 3) rfl (by kernel_rfl) (by kernel_rfl) (by kernel_rfl) (fun _ _ _ h => h) (yieldsIf_agg rfl _ _ rfl _ _ rfl y0) hS ?_
  refine wpAnyH_take (i := 4) rfl (by kernel_rfl) (by kernel_rfl) (by kernel_rfl) (fun _ _ _ h => h) (yieldsIf_agg rfl _ _ rfl _ _ rfl y1) hS ?_
  simp only [Act.put, List.setIfInBounds_toArray, List.set_cons_zero, List.set_cons_succ]
  refine wpAnyH_ready (rs := [1]) (by kernel_rfl) (by simp) (AllReadyH.cons rfl (fun K hK => ?_) AllReadyH.nil)
  go_simp
  refine (HR.out _ bw.drew).mono ?_
  rintro _ w4 ⟨ub, m, rfl, hr4, hb4, hu1, hm1⟩
  refine hK.out _ _ ((Below.refl _ _).drew.trans hb4) (fun hS4 => ?_)
  clear hK K
  refine wpAnyH_take (i := 2) rfl (by kernel_rfl) (by kernel_rfl) (by kernel_rfl) (fun _ _ _ h => h) (.inl ⟨rfl, fun W _ => run_field85 _ _ W⟩) hS4 ?_
  simp only [Act.put, List.setIfInBounds_toArray, List.set_cons_zero, List.set_cons_succ]
  refine wpAnyH_ready (rs := [5]) (by kernel_rfl) (by simp) (AllReadyH.cons rfl (fun K hK => ?_) AllReadyH.nil)
  go_simp
  refine (HU.out _ _ _ hr4).mono ?_
  rintro _ w5 ⟨rfl, hb5⟩
  refine hK.out _ _ (hS4.trans (hb5.mono hS4.size)) (fun hS5 => ?_)
  clear hK K
  refine wpAnyH_ready (rs := [6]) (by kernel_rfl) (by simp) (AllReadyH.cons rfl (fun K hK => ?_) AllReadyH.nil)
  go_simp
  refine hK.out _ _ hS5 (fun hS6 => ?_)
  clear hK K
  refine wpAnyH_done (by kernel_rfl) ?_ _
  go_wp2
  go_ret
  exact ⟨rfl, bw.trans (hS5.mono hsz)⟩
set_option maxRecDepth 100000 in
theorem judge_conflict_any (w : World) (v : Value) (xs : List FactD) (a b : ID) (h : SlIn w v 72 factL xs) (hlen : xs.length ≤ 1000) :
    Calls Try.prog 18 #[v, .agg (idL a).toArray, .agg (idL b).toArray] w fun e w' => e = .returned (.bool (conflictR xs a b)) ∧ Below w.heap.size w w' := by
  have HR := Lib.hid fun W (hb : Below w.heap.size w W) => related_any W v xs (h.below hb) hlen
  have HU0 := fun W ub m (hr : RelAt W ub m xs) => conflict_any W ub m xs a b hr
  unfold relV at HU0
  have HU := Lib.hid HU0
  clear HU0
  clear h
  generalize conflictR xs a b = r at *
  go_enter Try.func18, Try.ntmps18
  go_wp2_with fail
  have bw : Below w.heap.size w ((w.alloc (.cells (idL a).toArray 45)).alloc (.cells (idL b).toArray 45)) := ((Below.refl _ w).alloc (Nat.le_refl _) _).alloc (by simp) _
  have p0 : obj ((w.alloc (.cells (idL a).toArray 45)).alloc (.cells (idL b).toArray 45)) w.heap.size = some (.cells (idL a).toArray 45 (0, 0)) := by simp [go_sem]
  have p1 : obj ((w.alloc (.cells (idL a).toArray 45)).alloc (.cells (idL b).toArray 45)) (w.heap.size + 1) = some (.cells (idL b).toArray 45 (0, 0)) := by simp [go_sem]
  generalize (w.alloc (.cells (idL a).toArray 45)).alloc (.cells (idL b).toArray 45) = w2 at *
  have z1 := lt_of_obj p1
  have hsz := bw.size
  refine wp_region_held_drew (S := fun W => Below w2.heap.size w2 W) (by kernel_rfl) (Below.refl _ _).drew (fun hS => ?_)
  have y0 : ∀ W, Below w2.heap.size w2 W → (loadAgg 45 ⟨w.heap.size, 0, none⟩).run Try.prog W = .ok (.agg (idL a).toArray) W := fun W hW => by
    have := (obj_below hW (by omega)).trans p0
    simp [go_sem, this]
  have y1 : ∀ W, Below w2.heap.size w2 W → (loadAgg 45 ⟨w.heap.size + 1, 0, none⟩).run Try.prog W = .ok (.agg (idL b).toArray) W := fun W hW => by
    have := (obj_below hW z1).trans p1
    simp [go_sem, this]
  refine wpAnyH_take (i := 0) rfl (by kernel_rfl) (by kernel_rfl) (by kernel_rfl) (fun _ _ _ h => h) (yieldsIf_move rfl _ rfl) hS ?_
  refine wpAnyH_take (i := 2) rfl (by kernel_rfl) (by kernel_rfl) (by kernel_rfl) (fun _ _ _ h => h) (yieldsIf_agg rfl _ _ rfl _ _ rfl y0) hS ?_
  refine wpAnyH_take (i := 3) rfl (by kernel_rfl) (by kernel_rfl) (by kernel_rfl) (fun _ _ _ h => h) (yieldsIf_agg rfl _ _ rfl _ _ rfl y1) hS ?_
  simp only [Act.put, List.setIfInBounds_toArray, List.set_cons_zero, List.set_cons_succ]
  refine wpAnyH_ready (rs := [1]) (by kernel_rfl) (by simp) (AllReadyH.cons rfl (fun K hK => ?_) AllReadyH.nil)
  go_simp
  refine (HR.out _ bw.drew).mono ?_
  rintro _ w4 ⟨ub, m, rfl, hr4, hb4, hu1, hm1⟩
  refine hK.out _ _ ((Below.refl _ _).drew.trans hb4) (fun hS4 => ?_)
  clear hK K
  refine wpAnyH_ready (rs := [4]) (by kernel_rfl) (by simp) (AllReadyH.cons rfl (fun K hK => ?_) AllReadyH.nil)
  go_simp
  refine (HU.out _ _ _ hr4).mono ?_
  rintro _ w5 ⟨rfl, hb5⟩
  refine hK.out _ _ (hS4.trans (hb5.mono hS4.size)) (fun hS5 => ?_)
  clear hK K
  refine wpAnyH_ready (rs := [5]) (by kernel_rfl) (by simp) (AllReadyH.cons rfl (fun K hK => ?_) AllReadyH.nil)
  go_simp
  refine hK.out _ _ hS5 (fun hS6 => ?_)
  clear hK K
  refine wpAnyH_done (by kernel_rfl) ?_ _
  go_wp2
  go_ret
  exact ⟨rfl, bw.trans (hS5.mono hsz)⟩

theorem eg42 : ∀ args w, (callFunc 42 args).run Try.prog w = .ok (.enter 42 args) w := enters_of Try.func42 (by kernel_rfl) rfl
/-- the closure 'against': does a name conflict with the fact's -/
theorem against_any (w : World) (rb fb ub m : Nat) (xs : List FactD) (x : FactD) (a : ID) (hr : RelAt w ub m xs)
    (h1 : obj w rb = some (.cells #[.map (some m), .func (.func 63) #[] #[.pointer (some ⟨ub, 0, none⟩)]] 85 (0, 0))) (h2 : obj w fb = some (.cells (factL x).toArray 54 (0, 0))) :
    Calls Try.prog 42 #[.agg (idL a).toArray, .pointer (some ⟨rb, 0, none⟩), .pointer (some ⟨fb, 0, none⟩)] w fun e w' => e = .returned (.bool (conflictR xs a x.id)) ∧ Below w.heap.size w w' := by
  have HC0 := conflict_any (w.alloc (.cells (idL a).toArray 45)) ub m xs a x.id (hr.below ((Below.refl _ w).alloc (Nat.le_refl _) _))
  unfold relV at HC0
  have HC := Lib.hid HC0
  clear HC0
  have z1 := lt_of_obj h1
  have z2 := lt_of_obj h2
  generalize conflictR xs a x.id = r at *
  go_enter Try.func42, Try.ntmps42
  go_wp2_with fail
  refine HC.out.mono ?_
  rintro e w1 ⟨rfl, hb⟩
  go_wp2
  go_ret
  exact ⟨rfl, ((Below.refl _ w).alloc (Nat.le_refl _) _).trans (hb.mono (by simp))⟩
end Go.Proofs.Ytmenfbfekfljbaa
