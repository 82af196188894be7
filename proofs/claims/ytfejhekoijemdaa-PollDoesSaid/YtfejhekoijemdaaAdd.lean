import Derived.Test.YtfejhekoijemdaaGoT
import Derived.Test.YtfejhekoijemdaaSrtX
namespace Go.Proofs.Ytfejhekoijemdaa
open Go.RowKit

def addE (l : List Vt) (n : Int) : Int := if bagE l = 0 then (if n < 0 then 1 else if 1048576 - totV l < n then 6 else 0) else 70
def addV (l : List Vt) (id : ID) (n : Int) : List Vt := if addE l n = 0 then putV l id n else []
theorem addE_0 {l : List Vt} {n : Int} (h : addE l n = 0) : bagE l = 0 ∧ 0 ≤ n ∧ n ≤ 1048576 - totV l := by
  unfold addE at h
  split at h
  · split at h
    · cases h
    · split at h
      · cases h
      · refine ⟨‹_›, by omega, by omega⟩
  · cases h
theorem cnt_le_sum {l : List Vt} (hp : Pos l) (id : ID) : cnt id l ≤ sumN l := by
  induction l with
  | nil => exact Int.le_refl _
  | cons x l ih =>
    have := ih (fun y hy => hp y (by simp [hy]))
    have h1 := hp x (by simp)
    simp only [cnt, sumN]
    split <;> omega
/-- what Add and Merge hand back -/
def RetBag (w : World) (c : Int) (xs : List Vt) (e : Ending) (w' : World) : Prop :=
  ∃ v, e = .returned (.tuple #[v, .int .i64 c]) ∧ OwnS w' w.heap.size 58 33 vtL v xs ∧ Below w.heap.size w w'
theorem RetBag.err {w w' : World} {c c' : Int} {xs : List Vt} (h : c = c') (hx : xs = []) (hb : Below w.heap.size w w') : RetBag w c xs (.returned (.tuple #[.slice none 0 0, .int .i64 c'])) w' :=
  ⟨_, by rw [h], by rw [hx]; exact OwnS.nil _ _ _ _ _, hb⟩
theorem RetBag.ok {w w' : World} {c c' : Int} {xs ys : List Vt} {v : Value} (h : c = c') (hx : xs = ys) (ho : OwnS w' w.heap.size 58 33 vtL v ys) (hb : Below w.heap.size w w') : RetBag w c xs (.returned (.tuple #[v, .int .i64 c'])) w' :=
  ⟨_, by rw [h], by rw [hx]; exact ho, hb⟩
set_option maxRecDepth 100000 in
set_option maxHeartbeats 2000000 in
/-- bag.Add -/
theorem add_any (w : World) (v : Value) (l : List Vt) (id : ID) (n : Int) (h : SlIn w v 33 vtL l) (hlen : l.length ≤ 1048575) : Calls Try.prog 36 #[v, .agg (idL id).toArray, .int .i64 n] w (RetBag w (addE l n) (addV l id n)) := by
  have hb : Below w.heap.size w (w.alloc (.cells (idL id).toArray 37)) := (Below.refl _ w).alloc (Nat.le_refl _) _
  have hob : obj (w.alloc (.cells (idL id).toArray 37)) w.heap.size = some (.cells (idL id).toArray 37 (0, 0)) := obj_alloc_at _ _ _ rfl
  have hz : (w.alloc (.cells (idL id).toArray 37)).heap.size = w.heap.size + 1 := by simp
  have HSL := Lib.hid h
  have HB := Lib.hid hb
  have HO := Lib.hid hob
  have HC := Lib.hid (check_any _ v l (h.below hb))
  have HT := totV_bd l
  have hmk : ∀ w : World, (Instr.makeMap 115 none).run Try.prog w = .ok (.map (some w.heap.size)) (w.alloc (.map #[] 0)) := fun w => by kernel_rfl
  obtain ⟨oa, cap, rfl, g1, g2, g3⟩ := h
  clear g3 hb hob
  rcases bagE_cases l with hE | hE
  · rw [hE] at HC
    have hN := fun w' => Lib.hid (total_any w' (.slice oa l.length cap) l)
    by_cases hn0 : n < 0
    · have d0 : decide (n < 0) = true := by simpa using hn0
      have HA : Hid (addE l n = 1) := Lib.hid (by unfold addE; rw [if_pos hE, if_pos hn0])
      have HV : Hid (addV l id n = []) := Lib.hid (by unfold addV; rw [HA.out]; rfl)
      clear hn0 hE hN HT
      go_enter Try.func36, Try.ntmps36
      go_wp2_with fail
      refine HC.out.mono ?_
      rintro e w1 ⟨rfl, b1⟩
      have B1 := Lib.hid (HB.out.trans (b1.mono (by simp)))
      clear b1
      go_wp2
      go_ret2
      exact RetBag.err HA.out HV.out B1.out
    · have d0 : decide (n < 0) = false := by simpa using hn0
      have hwr : IntKind.i64.wrap (1048576 - totV l) = 1048576 - totV l := by simp [IntKind.wrap, IntKind.signed, IntKind.bits]; omega
      by_cases hn1 : 1048576 - totV l < n
      · have d1 : decide (1048576 - totV l < n) = true := by simpa using hn1
        have HA : Hid (addE l n = 6) := Lib.hid (by unfold addE; rw [if_pos hE, if_neg hn0, if_pos hn1])
        have HV : Hid (addV l id n = []) := Lib.hid (by unfold addV; rw [HA.out]; rfl)
        clear hn0 hE hn1 HT
        generalize totV l = T at *
        go_enter Try.func36, Try.ntmps36
        go_wp2_with fail
        refine HC.out.mono ?_
        rintro e w1 ⟨rfl, b1⟩
        have B1 := Lib.hid (HB.out.trans (b1.mono (by simp)))
        have HT1 := Lib.hid ((hN w1).out (HSL.out.below B1.out))
        clear b1
        go_wp2_with fail
        refine HT1.out.mono ?_
        rintro e w2 ⟨rfl, b2⟩
        have B2 := Lib.hid (B1.out.trans (b2.mono B1.out.size))
        clear b2 HT1
        go_wp2
        go_ret2
        exact RetBag.err HA.out HV.out B2.out
      · have d1 : decide (1048576 - totV l < n) = false := by simpa using hn1
        have HA : Hid (addE l n = 0) := Lib.hid (by unfold addE; rw [if_pos hE, if_neg hn0, if_neg hn1])
        have HV : Hid (addV l id n = putV l id n) := Lib.hid (by unfold addV; rw [if_pos HA.out])
        obtain ⟨ha, hp, hs⟩ := bagE_0 hE
        have htot : totV l = sumN l := by unfold totV; rw [goodV_of hE]
        have hcs := cnt_le_sum hp
        have hc0 := fun id => cnt_nonneg (id := id) hp
        have hls := len_sum hp
        have hg0 : ∀ id, getN ([] : List (ID × Int)) id = 0 := fun _ => rfl
        have HP := Lib.hid (bagOf_put ha hp id (n := n) (by omega))
        have hgid : getN (gathK [] l) id = cnt id l := by rw [gathK_getN, hg0]; omega
        have hgb : 0 ≤ getN (gathK [] l) id ∧ getN (gathK [] l) id + n ≤ 1048576 := by rw [hgid]; have := hc0 id; have := hcs id; omega
        have HGA := fun (w w0 : World) (m : Nat) => Lib.hid (fun a b c d => gather_any w w0 m (.slice oa l.length cap) l [] a b c d hp (fun id => by rw [hg0]; exact Int.le_refl _) (fun id => by rw [hg0]; have := hcs id; omega))
        have hlG : (gathK ([] : List (ID × Int)) l).length ≤ 1048575 := by have := gathK_len l ([] : List (ID × Int)); simp at this; omega
        have HSO := fun (w : World) (m : Nat) (L : List (ID × Int)) (h : MapB w m idV nV L) => Lib.hid (sorted_any w m L h)
        have HND := Lib.hid (nodup_put id (getN (gathK [] l) id + n) (gathK [] l) (gathK_nodup l [] (by simp)))
        have HLN : Hid ((kPut id (getN (gathK [] l) id + n) (gathK [] l)).length ≤ 1048576) := Lib.hid (by have := kPut_len id (getN (gathK [] l) id + n) (gathK [] l); omega)
        have hwr2 : IntKind.i64.wrap (getN (gathK [] l) id + n) = getN (gathK [] l) id + n := by simp [IntKind.wrap, IntKind.signed, IntKind.bits]; omega
        clear hn0 hE hn1 HT ha hp hs htot hcs hc0 hls hgid hgb hlG
        generalize totV l = T at *
        generalize gathK [] l = G at *
        go_enter Try.func36, Try.ntmps36
        go_wp2_with fail
        generalize hw0 : w.alloc (.cells (idL id).toArray 37) = w0 at *
        clear hw0
        generalize hBB : w.heap.size = B at *
        refine HC.out.mono ?_
        rintro e w1 ⟨rfl, b1⟩
        have hz1 := b1.size
        have B1 := Lib.hid (HB.out.trans (b1.mono (by omega)))
        have O1 := Lib.hid ((obj_below b1 (by omega)).trans HO.out)
        have HT1 := Lib.hid ((hN w1).out (HSL.out.below (by rw [hBB]; exact B1.out)))
        clear b1
        go_wp2_with fail
        refine HT1.out.mono ?_
        rintro e w2 ⟨rfl, b2⟩
        have hz2 := b2.size
        have B2 := Lib.hid (B1.out.trans (b2.mono (by omega)))
        have O2 := Lib.hid ((obj_below b2 (by omega)).trans O1.out)
        have HM0 := MapB.made_at w2 rfl idV nV (α := ID) (ν := Int)
        have B3 := Lib.hid (B2.out.alloc (by omega) (.map #[] 0))
        have O3 := Lib.hid ((obj_alloc_past w2 (.map #[] 0) B (by omega)).trans O2.out)
        have hz3 : (w2.alloc (.map #[] 0)).heap.size = w2.heap.size + 1 := by simp
        have HG1 := Lib.hid ((HGA (w2.alloc (.map #[] 0)) w w2.heap.size).out HSL.out (by rw [hBB]; exact B3.out) (by omega) HM0)
        clear b2 HT1 HM0
        go_wp2_with fail
        generalize w2.alloc (.map #[] 0) = w3 at *
        generalize w2.heap.size = m at *
        refine HG1.out.mono ?_
        rintro e w4 ⟨rfl, hM4, hK4⟩
        have hz4 := hK4.size
        have O4 := Lib.hid ((hK4.block B (by omega) (by omega)).trans O3.out)
        have p1 : subOf (obj w4 B) 0 32 = some (idL id).toArray := by rw [O4.out, subOf_cells (by simp), subA_all (by simp)]
        have HK4 := Lib.hid hK4
        obtain ⟨es, clk, st, es1, clk1, es', clk', f0, f1, f2, f3, f4, f5⟩ := entry115 _ m G id (getN G id + n) hM4
        have hBl : B < w4.heap.size := by omega
        have hml2 : m < w4.heap.size := hM4.lt
        have f0' : obj (putObj w4 m (.map es1 clk1)) m = some (.map es1 clk1) := obj_putObj_eq _ _ _ hml2
        have e0 : obj (putObj w4 m (.map es1 clk1)) B = obj w4 B := obj_putObj_ne _ _ _ _ (by omega)
        have p1' := p1
        rw [← e0] at p1'
        have HF := Lib.hid (f5 (putObj w4 m (.map es' clk')) (obj_putObj_eq _ _ _ hml2))
        have HPP := putObj_put w4 m (.map es1 clk1) (.map es' clk')
        have HK5 := Lib.hid ((HK4.out.putObj (m := m) rfl (.map es' clk')).drew)
        have HS5 := Lib.hid ((HSO (putObj w4 m (.map es' clk')).drew m _ (HF.out.of_obj rfl)).out HND.out HLN.out)
        rw [HP.out] at HS5
        clear hM4 hK4 O4 e0 f5 HG1
        go_wp2
        go_region
        go_wp2_with fail
        refine HS5.out.mono ?_
        rintro e w6 ⟨v6, rfl, o6, b6⟩
        have hz5 := HK5.out.size
        have HO6 := Lib.hid (o6.rebase (b' := B) (by omega))
        have B6 := Lib.hid (B3.out.trans ((HK5.out.below (B := B) (fun k hk => by omega) (by omega)).trans (b6.mono (by omega))))
        clear o6 b6 HS5
        go_wp2
        go_ret2
        exact RetBag.ok HA.out HV.out (by rw [hBB]; exact HO6.out) (by rw [hBB]; exact B6.out)
  · rw [hE] at HC
    have HA : Hid (addE l n = 70) := Lib.hid (by unfold addE; rw [if_neg (by omega)])
    have HV : Hid (addV l id n = []) := Lib.hid (by unfold addV; rw [HA.out]; rfl)
    clear hE HT
    go_enter Try.func36, Try.ntmps36
    go_wp2_with fail
    refine HC.out.mono ?_
    rintro e w1 ⟨rfl, b1⟩
    have B1 := Lib.hid (HB.out.trans (b1.mono (by simp)))
    clear b1
    go_wp2
    go_ret2
    exact RetBag.err HA.out HV.out B1.out
end Go.Proofs.Ytfejhekoijemdaa
