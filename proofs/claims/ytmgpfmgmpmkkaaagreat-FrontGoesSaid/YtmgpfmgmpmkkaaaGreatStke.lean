import Derived.Test.YtmgpfmgmpmkkaaaGreatStk
namespace Go.Proofs.YtmgpfmgmpmkkaaaGreat
open Go.RowKit Go.Shelf Go.Sort

theorem run_lookup76 (w : World) (m : Nat) (L : List (ID × Int)) (id : ID) (h : MapB w m idV nV L) : (Instr.lookup 85 (.map (some m)) (.agg (idL id).toArray) false).run Tryz.prog w = .ok (.int .i64 (getN L id)) w := by
  have := run_lookup1_k (P := Tryz.prog) (t := 85) (kt := 32) (et := 2) keyOK32 Tryz.underlying85 (z := nV 0) (fun w => by kernel_rfl) h.mapK id
  rw [show idV id = .agg (idL id).toArray from rfl] at this
  rw [this]
  unfold getN
  cases kGet id L <;> rfl
theorem fr_cells {W : World} {b : Nat} {d : FrD} (h : obj W b = some (.cells (frC d) 27 (0, 0))) : W.cell? ⟨b, 0, none⟩ = some (.int .i64 d.phase) ∧ W.cell? ⟨b, 1, none⟩ = some (.slice d.oa d.on d.oc) ∧ W.cell? ⟨b, 2, none⟩ = some (.slice d.ta d.tn d.tc) ∧ W.cell? ⟨b, 3, none⟩ = some (.slice d.sa d.sn d.sc) :=
  ⟨cell_at h 0, cell_at h 1, cell_at h 2, cell_at h 3⟩
theorem id_range {W : World} {b : Nat} {T : TypeId} {fr : Nat × Nat} {id : ID} (h : obj W b = some (.cells (idL id).toArray T fr)) : W.rangeAt b 0 (idL id) := fun j u hj => by
  rw [Nat.zero_add, cell_at h]
  simpa using hj
theorem hu45 : Tryz.prog.underlying 32 = some (.array 32 5) := Tryz.underlying32
theorem hs45 (a : ID) : (Tryz.prog.info? 32).map (·.size) = some (idL a).length := by rw [idL_length]; kernel_rfl
set_option maxRecDepth 100000 in
set_option maxHeartbeats 4000000 in
/-- Stake -/
theorem stake_any (w : World) (v : Value) (l : List Vd) (d : FrD) (m : FrM) (id : ID) (hl : SlIn w v 2 vdL l) (h : FrAt w d m) (hs : FrSm m) :
    Calls Tryz.prog 26 #[v, frV d, .agg (idL id).toArray] w fun e w' => e = .returned (.int .i64 (stake l m id)) ∧ Below w.heap.size w w' := by
  have hb0 : Below w.heap.size w ((w.alloc (.cells (frC d) 27)).alloc (.cells (idL id).toArray 32)) := ((Below.refl _ w).alloc (Nat.le_refl _) _).alloc (by simp) _
  have ob : obj ((w.alloc (.cells (frC d) 27)).alloc (.cells (idL id).toArray 32)) w.heap.size = some (.cells (frC d) 27 (0, 0)) := (obj_alloc_past _ _ _ (by simp)).trans (fr_box w d)
  have oi : obj ((w.alloc (.cells (frC d) 27)).alloc (.cells (idL id).toArray 32)) (w.heap.size + 1) = some (.cells (idL id).toArray 32 (0, 0)) := obj_alloc_at _ _ _ (by simp)
  have hz : ((w.alloc (.cells (frC d) 27)).alloc (.cells (idL id).toArray 32)).heap.size = w.heap.size + 2 := by simp
  have HC := Lib.hid (fun W (hW : Below w.heap.size w W) => stakes_any W v l d m (hl.below hW) (h.below hW) hs)
  have HG : Hid (getN (stkL l m) id = stake l m id) := Lib.hid (getN_stkL l m id)
  generalize stake l m id = T at *
  generalize stkL l m = L at *
  obtain ⟨dp, doa, don, doc, dta, dtn, dtc, dsa, dsn, dsc⟩ := d
  have B0 := Lib.hid hb0
  have OB := Lib.hid ob
  have OI := Lib.hid oi
  have HZ := Lib.hid hz
  clear hb0 ob oi hz h hl hs
  go_enter Tryz.func26, Tryz.ntmps26
  go_wp2_with fail
  generalize (w.alloc (.cells (frC ⟨dp, doa, don, doc, dta, dtn, dtc, dsa, dsn, dsc⟩) 27)).alloc (.cells (idL id).toArray 32) = w1 at *
  have hz := HZ.out
  have hu := hu45
  have hs := hs45 id
  have hbl := lt_of_obj OB.out
  have hil := lt_of_obj OI.out
  obtain ⟨x0, x1, x2, x3⟩ := fr_cells OB.out
  have hr := id_range OI.out
  simp only at x0 x1 x2 x3
  go_region_held3 (fun W => W.cell? ⟨w.heap.size, 0, none⟩ = some (.int .i64 dp) ∧ W.cell? ⟨w.heap.size, 1, none⟩ = some (.slice doa don doc) ∧ W.cell? ⟨w.heap.size, 2, none⟩ = some (.slice dta dtn dtc) ∧ W.cell? ⟨w.heap.size, 3, none⟩ = some (.slice dsa dsn dsc) ∧ W.rangeAt (w.heap.size + 1) 0 (idL id) ∧ Below w1.heap.size w1 W)
    (first | exact ⟨x0, x1, x2, x3, hr, (Below.refl _ _).drew⟩ | assumption)
    (first
      | (go_at_call 57; (with_reducible refine (HC.out w1.drew B0.out.drew).mono ?_); rintro e w2 ⟨mp, rfl, hm, b2⟩; have hL := run_lookup76 w2 mp L id hm; rw [HG.out] at hL; have B2 : Hid (Below w1.heap.size w1 w2) := Lib.hid ((Below.refl _ w1).drew.trans b2); have T2 := fr_cells ((obj_below B2.out hbl).trans OB.out); have s2 : w2.cell? ⟨w.heap.size, 0, none⟩ = some (.int .i64 dp) ∧ w2.cell? ⟨w.heap.size, 1, none⟩ = some (.slice doa don doc) ∧ w2.cell? ⟨w.heap.size, 2, none⟩ = some (.slice dta dtn dtc) ∧ w2.cell? ⟨w.heap.size, 3, none⟩ = some (.slice dsa dsn dsc) ∧ w2.rangeAt (w.heap.size + 1) 0 (idL id) ∧ Below w1.heap.size w1 w2 := ⟨T2.1, T2.2.1, T2.2.2.1, T2.2.2.2, id_range ((obj_below B2.out hil).trans OI.out), B2.out⟩; clear T2 b2 hm))
  go_wp2
  go_ret
  exact ⟨rfl, B0.out.trans (B2.out.mono B0.out.size)⟩
end Go.Proofs.YtmgpfmgmpmkkaaaGreat
