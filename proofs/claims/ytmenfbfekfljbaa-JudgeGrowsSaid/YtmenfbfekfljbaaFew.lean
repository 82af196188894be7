import Derived.Test.YtmenfbfekfljbaaLine
namespace Go.Proofs.Ytmenfbfekfljbaa
open Go.RowKit

theorem name_0 (w : World) : Calls Try.prog 40 #[.int .u8 0] w fun e w' => e = .returned (.agg (idL (nameID 0)).toArray) ∧ Below w.heap.size w w' := by
  go_enter Try.func40, Try.ntmps40
  go_wp2
  exact bodyPost_ret (results_cell (v := .agg (idL (nameID 0)).toArray) Try.results40 _ rfl (by simp [go_sem])) rfl ⟨rfl, (Below.refl _ w).alloc (Nat.le_refl _) _⟩
theorem name_1 (w : World) : Calls Try.prog 40 #[.int .u8 1] w fun e w' => e = .returned (.agg (idL (nameID 1)).toArray) ∧ Below w.heap.size w w' := by
  go_enter Try.func40, Try.ntmps40
  go_wp2
  exact bodyPost_ret (results_cell (v := .agg (idL (nameID 1)).toArray) Try.results40 _ rfl (by simp [go_sem])) rfl ⟨rfl, (Below.refl _ w).alloc (Nat.le_refl _) _⟩
theorem name_2 (w : World) : Calls Try.prog 40 #[.int .u8 2] w fun e w' => e = .returned (.agg (idL (nameID 2)).toArray) ∧ Below w.heap.size w w' := by
  go_enter Try.func40, Try.ntmps40
  go_wp2
  exact bodyPost_ret (results_cell (v := .agg (idL (nameID 2)).toArray) Try.results40 _ rfl (by simp [go_sem])) rfl ⟨rfl, (Below.refl _ w).alloc (Nat.le_refl _) _⟩
theorem name_3 (w : World) : Calls Try.prog 40 #[.int .u8 3] w fun e w' => e = .returned (.agg (idL (nameID 3)).toArray) ∧ Below w.heap.size w w' := by
  go_enter Try.func40, Try.ntmps40
  go_wp2
  exact bodyPost_ret (results_cell (v := .agg (idL (nameID 3)).toArray) Try.results40 _ rfl (by simp [go_sem])) rfl ⟨rfl, (Below.refl _ w).alloc (Nat.le_refl _) _⟩

/-! ### plans, validators -/
structure VdrD where
  name : ByteArray
  weight : Int
def vdrL (v : VdrD) : List Value := [.string v.name, .int .i64 v.weight]
structure PlanD where
  cfg : List Int
  hcfg : cfg.length = 28
  vdrs : SlD
  byz : SlD
  first : SlD
  now : Int
def planL (p : PlanD) : List Value := p.cfg.map (Value.int .i64) ++ [slV p.vdrs, slV p.byz, slV p.first, .int .i64 p.now]
def PlanD.zero : PlanD := ⟨List.replicate 28 0, rfl, ⟨none, 0, 0⟩, ⟨none, 0, 0⟩, ⟨none, 0, 0⟩, 0⟩
section
variable (p : PlanD)
@[go_sem, simp] theorem planL_length : (planL p).length = 32 := by simp [planL, p.hcfg]
theorem planL_tail (i : Nat) : (planL p)[28 + i]? = [slV p.vdrs, slV p.byz, slV p.first, .int .i64 p.now][i]? := by
  unfold planL
  rw [List.getElem?_append_right (by simp [p.hcfg])]
  simp [p.hcfg]
@[go_sem] theorem planL_28 : (planL p)[28]? = some (.slice p.vdrs.a p.vdrs.len p.vdrs.cap) := planL_tail p 0
@[go_sem] theorem planL_29 : (planL p)[29]? = some (.slice p.byz.a p.byz.len p.byz.cap) := planL_tail p 1
@[go_sem] theorem planL_g28 (h : 28 < (planL p).length) : (planL p)[28]'h = .slice p.vdrs.a p.vdrs.len p.vdrs.cap := Option.some.inj ((List.getElem?_eq_getElem h).symm.trans (planL_28 p))
@[go_sem] theorem planL_g29 (h : 29 < (planL p).length) : (planL p)[29]'h = .slice p.byz.a p.byz.len p.byz.cap := Option.some.inj ((List.getElem?_eq_getElem h).symm.trans (planL_29 p))
end
@[go_sem ↓] theorem hide_build41 (ps : Array (Nat × Value)) : Instr.build 41 ps = buildAgg 41 ps := rfl
@[go_sem] theorem run_build41_nil (w : World) : (buildAgg 41 #[]).run Try.prog w = .ok (.agg (planL PlanD.zero).toArray) w := by kernel_rfl

def fewX (x : FactD) : Bool := decide (x.slots.len ≤ 100) && decide (x.votes.len ≤ 100)
def fewV (v : VdrD) : Bool := decide (v.name.size ≤ 100)
def fewB (xs : List FactD) (p : PlanD) (vs : List VdrD) : Bool := decide (xs.length ≤ 60) && decide (p.vdrs.len ≤ 40) && decide (p.byz.len ≤ 100) && xs.all fewX && vs.all fewV
theorem all_no {α : Type} {l : List α} {q : α → Bool} {k : Nat} (hk : k < l.length) (h : q l[k] = false) : l.all q = false := by
  rw [List.all_eq_false]; exact ⟨_, List.getElem_mem hk, by simp [h]⟩
theorem all_yes {α : Type} {l : List α} {q : α → Bool} (h : ∀ j (hj : j < l.length), j < l.length → q l[j] = true) : l.all q = true := by
  rw [List.all_eq_true]
  intro x hx
  obtain ⟨j, hj, rfl⟩ := List.getElem_of_mem hx
  exact h j hj hj

set_option maxRecDepth 100000 in
set_option maxHeartbeats 4000000 in
theorem few_any (w : World) (v : Value) (xs : List FactD) (p : PlanD) (vs : List VdrD) (h : SlIn w v 72 factL xs) (hv : SlIn w (slV p.vdrs) 2 vdrL vs) (hw1 : ∀ x ∈ xs, x.slots.len ≤ maxLen ∧ x.votes.len ≤ maxLen) (hw2 : p.byz.len ≤ maxLen) (hw3 : ∀ v ∈ vs, v.name.size ≤ maxLen) :
    Calls Try.prog 11 #[v, .agg (planL p).toArray] w fun e w' => e = .returned (.bool (fewB xs p vs)) ∧ Below w.heap.size w w' := by
  have HF : Hid (fewB xs p vs = (decide (xs.length ≤ 60) && decide (p.vdrs.len ≤ 40) && decide (p.byz.len ≤ 100) && xs.all fewX && vs.all fewV)) := Lib.hid rfl
  obtain ⟨oa, cap, rfl, h1, h2, h3⟩ := h
  obtain ⟨ov, capv, hpv, h1', h2', h3'⟩ := hv
  obtain ⟨cfg, hcfg, ⟨va, vl, vc⟩, byz, first, now⟩ := p
  simp only [slV, Value.slice.injEq] at hpv
  obtain ⟨rfl, rfl, rfl⟩ := hpv
  simp only at HF hw2
  have H3 := Lib.hid h3
  have H3' := Lib.hid h3'
  have HW := Lib.hid hw1
  have HW3 := Lib.hid hw3
  unfold maxLen at h2 h2' hw2
  clear h3 h3' hw1 hw3
  have bw : Below w.heap.size w (w.alloc (.cells (planL ⟨cfg, hcfg, ⟨va, vs.length, vc⟩, byz, first, now⟩).toArray 41)) := (Below.refl _ w).alloc (Nat.le_refl _) _
  have o1 : obj (w.alloc (.cells (planL ⟨cfg, hcfg, ⟨va, vs.length, vc⟩, byz, first, now⟩).toArray 41)) w.heap.size = some (.cells (planL ⟨cfg, hcfg, ⟨va, vs.length, vc⟩, byz, first, now⟩).toArray 41 (0, 0)) := obj_alloc_at _ _ _ rfl
  by_cases q1 : xs.length ≤ 60
  · by_cases q2 : vs.length ≤ 40
    · by_cases q3 : byz.len ≤ 100
      · go_enter Try.func11, Try.ntmps11
        go_wp2
        generalize w.alloc (.cells (planL ⟨cfg, hcfg, ⟨va, vs.length, vc⟩, byz, first, now⟩).toArray 41) = w1 at *
        go_loopw [6, 26] (fun _ v26 wr => ∃ (k : Nat), k ≤ xs.length ∧ v26 = .int .i64 k ∧ Hid (∀ j (hj : j < xs.length), j < k → fewX xs[j] = true) ∧ Below w.heap.size w wr ∧ Hid (obj wr w.heap.size = some (.cells (planL ⟨cfg, hcfg, ⟨va, vs.length, vc⟩, byz, first, now⟩).toArray 41 (0, 0)))) (fun _ i _ => xs.length - (intOf i).toNat)
        case atStart => exact ⟨0, Nat.zero_le _, rfl, Lib.hid (by omega), bw, Lib.hid o1⟩
        case round =>
          clear bw o1
          obtain ⟨k, hk, rfl, HG, hb, HO⟩ := hrel
          have hz := hb.size
          by_cases hlt : k < xs.length
          · obtain ⟨b, off, hoa, hbb, hrow⟩ := H3.out (by omega)
            subst hoa
            have hsub := hrow k hlt
            have hob : obj wr b = obj w b := obj_below hb hbb
            have hbr : b < wr.heap.size := Nat.lt_of_lt_of_le hbb hb.size
            have NX : Hid (fewX xs[k] = true → ∀ j (h1 : j < xs.length), j < k + 1 → fewX xs[j] = true) := Lib.hid (fun h j h1 hlt' => by
              by_cases e : j = k
              · subst e; exact h
              · exact HG.out j h1 (by omega))
            have NO : Hid (fewX xs[k] = false → fewB xs ⟨cfg, hcfg, ⟨va, vs.length, vc⟩, byz, first, now⟩ vs = false) := Lib.hid fun h => by rw [HF.out, all_no hlt h]; simp
            have BD : Hid (fewX xs[k] = (decide (xs[k].slots.len ≤ 100) && decide (xs[k].votes.len ≤ 100))) := Lib.hid rfl
            obtain ⟨m1, m2⟩ := HW.out xs[k] (List.getElem_mem hlt)
            unfold maxLen at m1 m2
            generalize fewX xs[k] = c at *
            generalize xs[k] = x at *
            clear hrow
            have bA : Below wr.heap.size wr (wr.alloc (.cells (factL x).toArray 54)) := (Below.refl _ _).alloc (Nat.le_refl _) _
            by_cases s1 : x.slots.len ≤ 100
            · by_cases s2 : x.votes.len ≤ 100
              · have hc : Hid (c = true) := Lib.hid (by rw [BD.out, decide_eq_true s1, decide_eq_true s2]; rfl)
                clear BD
                go_wp2
                go_roundw
                case rel => exact ⟨k + 1, by omega, by go_num, Lib.hid (NX.out hc.out), hb.trans (bA.mono hz), Lib.hid ((obj_below bA (lt_of_obj HO.out)).trans HO.out)⟩
                case measure => simp [intOf]; omega
              · have hc : Hid (c = false) := Lib.hid (by rw [BD.out, decide_eq_false s2]; simp)
                clear BD
                go_wp2
                go_ret
                exact ⟨ret_bool (NO.out hc.out).symm, hb.trans (bA.mono hz)⟩
            · have hc : Hid (c = false) := Lib.hid (by rw [BD.out, decide_eq_false s1]; simp)
              clear BD
              go_wp2
              go_ret
              exact ⟨ret_bool (NO.out hc.out).symm, hb.trans (bA.mono hz)⟩
          · have hk' : k = xs.length := by omega
            subst hk'
            have op := HO.out
            have zp := lt_of_obj op
            have c28 : wr.cell? ⟨w.heap.size, 28, none⟩ = some (.slice va vs.length vc) := (cell_at op 28).trans (by rw [List.getElem?_toArray]; exact planL_28 _)
            have HX : Hid (xs.all fewX = true) := Lib.hid (all_yes HG.out)
            obtain ⟨wo, rfl⟩ : ∃ wo : World, wo = wr := ⟨_, rfl⟩
            go_wp2
            go_loopw [8, 44] (fun _ v44 wr => ∃ (k : Nat), k ≤ vs.length ∧ v44 = .int .i64 k ∧ Hid (∀ j (hj : j < vs.length), j < k → fewV vs[j] = true) ∧ Below w.heap.size w wr) (fun _ i _ => vs.length - (intOf i).toNat)
            case atStart => exact ⟨0, Nat.zero_le _, rfl, Lib.hid (by omega), hb⟩
            case round =>
              clear op zp HO c28
              obtain ⟨k, hk, rfl, HG', hb'⟩ := hrel
              have hz' := hb'.size
              by_cases hlt : k < vs.length
              · obtain ⟨b, off, hoa, hbb, hrow⟩ := H3'.out (by omega)
                subst hoa
                have hsub := hrow k hlt
                rw [← obj_below hb' hbb] at hsub
                have hbr : b < wr.heap.size := Nat.lt_of_lt_of_le hbb hb'.size
                have NX : Hid (fewV vs[k] = true → ∀ j (h1 : j < vs.length), j < k + 1 → fewV vs[j] = true) := Lib.hid (fun h j h1 hlt' => by
                  by_cases e : j = k
                  · subst e; exact h
                  · exact HG'.out j h1 (by omega))
                have NO : Hid (fewV vs[k] = false → fewB xs ⟨cfg, hcfg, ⟨some ⟨b, off, none⟩, vs.length, vc⟩, byz, first, now⟩ vs = false) := Lib.hid fun h => by rw [HF.out, all_no hlt h]; simp
                have BD : Hid (fewV vs[k] = decide (vs[k].name.size ≤ 100)) := Lib.hid rfl
                have m1 := HW3.out vs[k] (List.getElem_mem hlt)
                unfold maxLen at m1
                generalize fewV vs[k] = c at *
                generalize vs[k] = y at *
                have d0 : wr.cell? ⟨b, off + k * 2, none⟩ = some (.string y.name) := (subOf_cell hsub (j := 0) (by decide)).trans rfl
                have d1 : wr.cell? ⟨b, off + k * 2 + 1, none⟩ = some (.int .i64 y.weight) := (subOf_cell hsub (j := 1) (by decide)).trans rfl
                clear hrow hsub
                have bA : Below wr.heap.size wr (wr.alloc (.cells #[.string y.name, .int .i64 y.weight] 81)) := (Below.refl _ _).alloc (Nat.le_refl _) _
                by_cases s1 : y.name.size ≤ 100
                · have hc : Hid (c = true) := Lib.hid (by rw [BD.out, decide_eq_true s1])
                  clear BD
                  go_wp2
                  go_roundw
                  case rel => exact ⟨k + 1, by omega, by go_num, Lib.hid (NX.out hc.out), hb'.trans (bA.mono hz')⟩
                  case measure => simp [intOf]; omega
                · have hc : Hid (c = false) := Lib.hid (by rw [BD.out, decide_eq_false s1])
                  clear BD
                  go_wp2
                  go_ret
                  exact ⟨ret_bool (NO.out hc.out).symm, hb'.trans (bA.mono hz')⟩
              · have hk' : k = vs.length := by omega
                subst hk'
                go_wp2
                go_ret
                exact ⟨ret_bool (by rw [HF.out, HX.out, all_yes HG'.out, decide_eq_true q1, decide_eq_true q2, decide_eq_true q3]; rfl), hb'⟩
      · go_enter Try.func11, Try.ntmps11
        go_wp2
        go_ret
        exact ⟨ret_bool (by rw [HF.out, decide_eq_false q3]; simp), bw⟩
    · go_enter Try.func11, Try.ntmps11
      go_wp2
      go_ret
      exact ⟨ret_bool (by rw [HF.out, decide_eq_false q2]; simp), bw⟩
  · go_enter Try.func11, Try.ntmps11
    go_wp2
    go_ret
    exact ⟨ret_bool (by rw [HF.out, decide_eq_false q1]; simp), bw⟩
end Go.Proofs.Ytmenfbfekfljbaa
