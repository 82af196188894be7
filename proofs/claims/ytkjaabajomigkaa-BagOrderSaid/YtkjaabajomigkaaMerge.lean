import Derived.Test.YtkjaabajomigkaaAddR
namespace Go.Proofs.Ytkjaabajomigkaa
open Go.RowKit

def mergeE (a b : List Vt) : Int := if bagE a = 0 then (if bagE b = 0 then (if 1048576 - totV a < totV b then 6 else 0) else 70) else 70
def mergeW (a b : List Vt) : List Vt := if mergeE a b = 0 then mergeV a b else []
theorem mergeE_0 {a b : List Vt} (h : mergeE a b = 0) : bagE a = 0 ∧ bagE b = 0 ∧ totV b ≤ 1048576 - totV a := by
  unfold mergeE at h
  split at h
  · split at h
    · split at h
      · cases h
      · exact ⟨‹_›, ‹_›, by omega⟩
    · cases h
  · cases h
theorem mergeV_snoc (x : Vt) : ∀ (b a : List Vt), mergeV a (b ++ [x]) = putV (mergeV a b) x.id x.n := by
  intro b
  induction b with
  | nil => intro a; rfl
  | cons y b ih => intro a; exact ih _
theorem totV_of {l : List Vt} (h : bagE l = 0) : totV l = sumN l := by unfold totV; rw [goodV_of h]
set_option maxRecDepth 100000 in
set_option maxHeartbeats 2000000 in
/-- bag.Merge -/
theorem merge_any (w : World) (va vb : Value) (a b : List Vt) (h1 : SlIn w va 33 vtL a) (h2 : SlIn w vb 33 vtL b) : Calls Try.prog 30 #[va, vb] w (RetBag w (mergeE a b) (mergeW a b)) := by
  have H1 := Lib.hid h1
  have H2 := Lib.hid h2
  have HC1 := Lib.hid (check_any _ va a h1)
  have HC2 := fun w' => Lib.hid (check_any w' vb b)
  have HTA := totV_bd a
  have HTB := totV_bd b
  have hmk : ∀ w : World, (Instr.makeMap 64 none).run Try.prog w = .ok (.map (some w.heap.size)) (w.alloc (.map #[] 0)) := fun w => by kernel_rfl
  obtain ⟨oa, ca, rfl, _, _, _⟩ := h1
  obtain ⟨ob, cb, rfl, _, _, _⟩ := h2
  rcases bagE_cases a with hE | hE
  · rw [hE] at HC1
    rcases bagE_cases b with hE2 | hE2
    · rw [hE2] at HC2
      have HT1 := fun w' => Lib.hid (total_any w' (.slice ob b.length cb) b)
      have HT2 := fun w' => Lib.hid (total_any w' (.slice oa a.length ca) a)
      have hwr : IntKind.i64.wrap (1048576 - totV a) = 1048576 - totV a := by simp [IntKind.wrap, IntKind.signed, IntKind.bits]; omega
      by_cases hn1 : 1048576 - totV a < totV b
      · have d1 : decide (1048576 - totV a < totV b) = true := by simpa using hn1
        have HA : Hid (mergeE a b = 6) := Lib.hid (by unfold mergeE; rw [if_pos hE, if_pos hE2, if_pos hn1])
        have HV : Hid (mergeW a b = []) := Lib.hid (by unfold mergeW; rw [HA.out]; rfl)
        clear hE hE2 hn1 HTA HTB
        generalize totV a = TA at *
        generalize totV b = TB at *
        go_enter Try.func30, Try.ntmps30
        go_wp2_with fail
        refine HC1.out.mono ?_
        rintro e w1 ⟨rfl, b1⟩
        have B1 := Lib.hid b1
        have HC2' := Lib.hid ((HC2 w1).out (H2.out.below b1))
        clear b1 HC1 HC2
        go_wp2_with fail
        refine HC2'.out.mono ?_
        rintro e w2 ⟨rfl, b2⟩
        have B2 := Lib.hid (B1.out.trans (b2.mono B1.out.size))
        have HT1' := Lib.hid ((HT1 w2).out (H2.out.below B2.out))
        clear b2 HC2'
        go_wp2_with fail
        refine HT1'.out.mono ?_
        rintro e w3 ⟨rfl, b3⟩
        have B3 := Lib.hid (B2.out.trans (b3.mono B2.out.size))
        have HT2' := Lib.hid ((HT2 w3).out (H1.out.below B3.out))
        clear b3 HT1'
        go_wp2_with fail
        refine HT2'.out.mono ?_
        rintro e w4 ⟨rfl, b4⟩
        have B4 := Lib.hid (B3.out.trans (b4.mono B3.out.size))
        clear b4 HT2'
        go_wp2
        go_ret2
        exact RetBag.err HA.out HV.out B4.out
      · have d1 : decide (1048576 - totV a < totV b) = false := by simpa using hn1
        have HA : Hid (mergeE a b = 0) := Lib.hid (by unfold mergeE; rw [if_pos hE, if_pos hE2, if_neg hn1])
        have HV : Hid (mergeW a b = mergeV a b) := Lib.hid (by unfold mergeW; rw [if_pos HA.out])
        obtain ⟨haa, hpa, hsa⟩ := bagE_0 hE
        obtain ⟨hab, hpb, hsb⟩ := bagE_0 hE2
        have hta := totV_of hE
        have htb := totV_of hE2
        have hca := cnt_le_sum hpa
        have hcb := cnt_le_sum hpb
        have hc0 := fun id => cnt_nonneg (id := id) hpa
        have hla := len_sum hpa
        have hlb := len_sum hpb
        have hg0 : ∀ id, getN ([] : List (ID × Int)) id = 0 := fun _ => rfl
        have HP := Lib.hid (bagOf_merge haa hpa hpb)
        have hga : ∀ id, getN (gathK [] a) id = cnt id a := fun id => by rw [gathK_getN, hg0]; omega
        have HGA := fun (w w0 : World) (m : Nat) => Lib.hid (fun x y z t => gather_any w w0 m (.slice oa a.length ca) a [] x y z t hpa (fun id => by rw [hg0]; exact Int.le_refl _) (fun id => by rw [hg0]; have := hca id; omega))
        have HGB := fun (w w0 : World) (m : Nat) => Lib.hid (fun x y z t => gather_any w w0 m (.slice ob b.length cb) b (gathK [] a) x y z t hpb (fun id => by rw [hga]; exact hc0 id) (fun id => by rw [hga]; have := hcb id; have := hca id; omega))
        have HLN : Hid ((gathK (gathK [] a) b).length ≤ 1048576) := Lib.hid (by have := gathK_len b (gathK [] a); have := gathK_len a ([] : List (ID × Int)); simp at this; omega)
        have HND := Lib.hid (gathK_nodup b _ (gathK_nodup a [] (by simp)))
        have HSO := fun (w : World) (m : Nat) (L : List (ID × Int)) (h : MapB w m idV nV L) => Lib.hid (sorted_any w m L h)
        clear hE hE2 hn1 HTA HTB haa hpa hsa hab hpb hsb hta htb hca hcb hc0 hla hlb hga hg0
        generalize totV a = TA at *
        generalize totV b = TB at *
        go_enter Try.func30, Try.ntmps30
        go_wp2_with fail
        refine HC1.out.mono ?_
        rintro e w1 ⟨rfl, b1⟩
        have B1 := Lib.hid b1
        have HC2' := Lib.hid ((HC2 w1).out (H2.out.below b1))
        clear b1 HC1 HC2
        go_wp2_with fail
        refine HC2'.out.mono ?_
        rintro e w2 ⟨rfl, b2⟩
        have B2 := Lib.hid (B1.out.trans (b2.mono B1.out.size))
        have HT1' := Lib.hid ((HT1 w2).out (H2.out.below B2.out))
        clear b2 HC2'
        go_wp2_with fail
        refine HT1'.out.mono ?_
        rintro e w3 ⟨rfl, b3⟩
        have B3 := Lib.hid (B2.out.trans (b3.mono B2.out.size))
        have HT2' := Lib.hid ((HT2 w3).out (H1.out.below B3.out))
        clear b3 HT1'
        go_wp2_with fail
        refine HT2'.out.mono ?_
        rintro e w4 ⟨rfl, b4⟩
        have hz4 := B3.out.size
        have hz4' := b4.size
        have B4 := Lib.hid (B3.out.trans (b4.mono B3.out.size))
        have HM0 := MapB.made_at w4 rfl idV nV (α := ID) (ν := Int)
        have B5 := Lib.hid (B4.out.alloc (by omega) (.map #[] 0))
        have hz5 : (w4.alloc (.map #[] 0)).heap.size = w4.heap.size + 1 := by simp
        have HG1 := Lib.hid ((HGA (w4.alloc (.map #[] 0)) w w4.heap.size).out H1.out B5.out (by omega) HM0)
        clear b4 HT2' HM0
        go_wp2_with fail
        generalize w4.alloc (.map #[] 0) = w5 at *
        generalize w4.heap.size = m at *
        refine HG1.out.mono ?_
        rintro e w6 ⟨rfl, hM6, hK6⟩
        have hz6 := hK6.size
        have B6 := Lib.hid (B5.out.trans (hK6.below (B := w.heap.size) (fun k hk => by omega) (by omega)))
        have HG2 := Lib.hid ((HGB w6 w m).out H2.out B6.out (by omega) hM6)
        clear hM6 hK6 HG1
        go_wp2_with fail
        refine HG2.out.mono ?_
        rintro e w7 ⟨rfl, hM7, hK7⟩
        have hz7 := hK7.size
        have B7 := Lib.hid (B6.out.trans (hK7.below (B := w.heap.size) (fun k hk => by omega) (by omega)))
        have HS7 := Lib.hid ((HSO w7 m _ hM7).out HND.out HLN.out)
        rw [HP.out] at HS7
        clear hM7 hK7 HG2
        go_wp2_with fail
        refine HS7.out.mono ?_
        rintro e w8 ⟨v8, rfl, o8, b8⟩
        have HO8 := Lib.hid (o8.rebase (b' := w.heap.size) (by omega))
        have B8 := Lib.hid (B7.out.trans (b8.mono (by omega)))
        clear o8 b8 HS7
        go_wp2
        go_ret2
        exact RetBag.ok HA.out HV.out HO8.out B8.out
    · rw [hE2] at HC2
      have HA : Hid (mergeE a b = 70) := Lib.hid (by unfold mergeE; rw [if_pos hE, if_neg (by omega)])
      have HV : Hid (mergeW a b = []) := Lib.hid (by unfold mergeW; rw [HA.out]; rfl)
      clear hE hE2 HTA HTB
      go_enter Try.func30, Try.ntmps30
      go_wp2_with fail
      refine HC1.out.mono ?_
      rintro e w1 ⟨rfl, b1⟩
      have B1 := Lib.hid b1
      have HC2' := Lib.hid ((HC2 w1).out (H2.out.below b1))
      clear b1 HC1 HC2
      go_wp2_with fail
      refine HC2'.out.mono ?_
      rintro e w2 ⟨rfl, b2⟩
      have B2 := Lib.hid (B1.out.trans (b2.mono B1.out.size))
      clear b2 HC2'
      go_wp2
      go_ret2
      exact RetBag.err HA.out HV.out B2.out
  · rw [hE] at HC1
    have HA : Hid (mergeE a b = 70) := Lib.hid (by unfold mergeE; rw [if_neg (by omega)])
    have HV : Hid (mergeW a b = []) := Lib.hid (by unfold mergeW; rw [HA.out]; rfl)
    clear hE HTA HTB
    go_enter Try.func30, Try.ntmps30
    go_wp2_with fail
    refine HC1.out.mono ?_
    rintro e w1 ⟨rfl, b1⟩
    have B1 := Lib.hid b1
    clear b1 HC1 HC2
    go_wp2
    go_ret2
    exact RetBag.err HA.out HV.out B1.out
set_option maxRecDepth 100000 in
set_option maxHeartbeats 2000000 in
/-- flurryref07.Merge -/
theorem mergeR_any (w : World) (va vb : Value) (a b : List Vt) (h1 : SlIn w va 33 vtL a) (h2 : SlIn w vb 33 vtL b) (hla : a.length ≤ 1048576) : Calls Try.prog 37 #[va, vb] w (RetBag w (mergeE a b) (mergeW a b)) := by
  have H1 := Lib.hid h1
  have H2 := Lib.hid h2
  have HC1 := Lib.hid (checkR_any _ va a h1)
  have HC2 := fun w' => Lib.hid (checkR_any w' vb b)
  have HTA := totV_bd a
  have HTB := totV_bd b
  obtain ⟨oa, ca, rfl, _, _, _⟩ := h1
  obtain ⟨ob, cb, rfl, _, g2, _⟩ := h2
  unfold maxLen at g2
  rcases bagE_cases a with hE | hE
  · rw [hE] at HC1
    rcases bagE_cases b with hE2 | hE2
    · rw [hE2] at HC2
      have HT1 := fun w' => Lib.hid (totalR_any w' (.slice ob b.length cb) b)
      have HT2 := fun w' => Lib.hid (totalR_any w' (.slice oa a.length ca) a)
      have hwr : IntKind.i64.wrap (1048576 - totV a) = 1048576 - totV a := by simp [IntKind.wrap, IntKind.signed, IntKind.bits]; omega
      by_cases hn1 : 1048576 - totV a < totV b
      · have d1 : decide (1048576 - totV a < totV b) = true := by simpa using hn1
        have HA : Hid (mergeE a b = 6) := Lib.hid (by unfold mergeE; rw [if_pos hE, if_pos hE2, if_pos hn1])
        have HV : Hid (mergeW a b = []) := Lib.hid (by unfold mergeW; rw [HA.out]; rfl)
        clear hE hE2 hn1 HTA HTB
        generalize totV a = TA at *
        generalize totV b = TB at *
        go_enter Try.func37, Try.ntmps37
        go_wp2_with fail
        refine HC1.out.mono ?_
        rintro e w1 ⟨rfl, b1⟩
        have B1 := Lib.hid b1
        have HC2' := Lib.hid ((HC2 w1).out (H2.out.below b1))
        clear b1 HC1 HC2
        go_wp2_with fail
        refine HC2'.out.mono ?_
        rintro e w2 ⟨rfl, b2⟩
        have B2 := Lib.hid (B1.out.trans (b2.mono B1.out.size))
        have HT1' := Lib.hid ((HT1 w2).out (H2.out.below B2.out))
        clear b2 HC2'
        go_wp2_with fail
        refine HT1'.out.mono ?_
        rintro e w3 ⟨rfl, b3⟩
        have B3 := Lib.hid (B2.out.trans (b3.mono B2.out.size))
        have HT2' := Lib.hid ((HT2 w3).out (H1.out.below B3.out))
        clear b3 HT1'
        go_wp2_with fail
        refine HT2'.out.mono ?_
        rintro e w4 ⟨rfl, b4⟩
        have B4 := Lib.hid (B3.out.trans (b4.mono B3.out.size))
        clear b4 HT2'
        go_wp2
        go_ret2
        exact RetBag.err HA.out HV.out B4.out
      · have d1 : decide (1048576 - totV a < totV b) = false := by simpa using hn1
        have HA : Hid (mergeE a b = 0) := Lib.hid (by unfold mergeE; rw [if_pos hE, if_pos hE2, if_neg hn1])
        have HV : Hid (mergeW a b = mergeV a b) := Lib.hid (by unfold mergeW; rw [if_pos HA.out])
        obtain ⟨haa, hpa, hsa⟩ := bagE_0 hE
        obtain ⟨hab, hpb, hsb⟩ := bagE_0 hE2
        have hta := totV_of hE
        have htb := totV_of hE2
        have HP0 := fun w' => Lib.hid (put_none w' (.slice oa a.length ca) a ID.zero)
        have HPUT : ∀ w (v : Value) k (hk : k < b.length), Hid (SlIn w v 33 vtL (mergeV a (b.take k)) → Calls Try.prog 40 #[v, .agg (idL b[k].id).toArray, .int .i64 b[k].n] w (RetOwn w 33 33 vtL (mergeV a (b.take (k + 1))))) := fun w v k hk => Lib.hid (fun hs' => by
          have hbk := hpb b[k] (by simp)
          rw [List.take_succ_eq_append_getElem hk, mergeV_snoc]
          unfold putV
          rw [if_neg (by omega)]
          have hpt : Pos (b.take k) := fun y hy => hpb y (List.mem_of_mem_take hy)
          obtain ⟨_, hpm⟩ := mergeV_ok (b.take k) a haa hpa hpt
          have hsm := mergeV_sum (b.take k) a
          have hst : sumN b = sumN (b.take k) + (b[k].n + sumN (b.drop (k + 1))) := by
            have := sumN_app (b.take k) (b.drop k)
            rw [List.take_append_drop, List.drop_eq_getElem_cons hk] at this
            exact this
          have hdr := sumN_pos (fun y hy => hpb y (List.mem_of_mem_drop hy) : Pos (b.drop (k + 1)))
          have hlm := len_sum hpm
          have hsp := sumN_pos hpt
          have hsa0 := sumN_pos hpa
          refine put_some w v _ b[k].id b[k].n hs' (by omega) (by omega) (by omega) (by omega) (fun x hx => ?_)
          have e1 := hpm x hx
          have e2 := sumN_mem hpm hx
          omega)
        clear hE hE2 hn1 HTA HTB haa hpa hsa hab hpb hsb hta htb
        generalize totV a = TA at *
        generalize totV b = TB at *
        go_enter Try.func37, Try.ntmps37
        go_wp2_with fail
        refine HC1.out.mono ?_
        rintro e w1 ⟨rfl, b1⟩
        have B1 := Lib.hid b1
        have HC2' := Lib.hid ((HC2 w1).out (H2.out.below b1))
        clear b1 HC1 HC2
        go_wp2_with fail
        refine HC2'.out.mono ?_
        rintro e w2 ⟨rfl, b2⟩
        have B2 := Lib.hid (B1.out.trans (b2.mono B1.out.size))
        have HT1' := Lib.hid ((HT1 w2).out (H2.out.below B2.out))
        clear b2 HC2'
        go_wp2_with fail
        refine HT1'.out.mono ?_
        rintro e w3 ⟨rfl, b3⟩
        have B3 := Lib.hid (B2.out.trans (b3.mono B2.out.size))
        have HT2' := Lib.hid ((HT2 w3).out (H1.out.below B3.out))
        clear b3 HT1'
        go_wp2_with fail
        refine HT2'.out.mono ?_
        rintro e w4 ⟨rfl, b4⟩
        have B4 := Lib.hid (B3.out.trans (b4.mono B3.out.size))
        have HP1 := Lib.hid ((HP0 w4).out (H1.out.below B4.out) hla)
        clear b4 HT2' HP0
        go_wp2_with fail
        refine HP1.out.mono ?_
        rintro e w5 ⟨v5, rfl, o5, b5⟩
        have hz5 := B4.out.size
        have HO5 := Lib.hid (o5.rebase (b' := w.heap.size) hz5)
        have B5 := Lib.hid (B4.out.trans (b5.mono hz5))
        clear o5 b5 HP1
        go_wp2
        go_loopw [6, 7] (fun v6 v7 wr => ∃ (k : Nat), k ≤ b.length ∧ v7 = .int .i64 k ∧ Hid (OwnS wr w.heap.size 33 33 vtL v6 (mergeV a (b.take k))) ∧ Hid (Below w.heap.size w wr)) (fun _ i _ => b.length - (intOf i).toNat)
        case atStart => exact ⟨0, Nat.zero_le _, rfl, Lib.hid (by simpa [mergeV] using HO5.out), B5⟩
        case round =>
          obtain ⟨k, hk, rfl, HO, HK⟩ := hrel
          have hzk := HK.out.size
          by_cases hlt : k < b.length
          · obtain ⟨ob', cb', e1, g1', g2', g3'⟩ := H2.out.below HK.out
            simp only [Value.slice.injEq] at e1
            obtain ⟨rfl, _, rfl⟩ := e1
            obtain ⟨bb, off, hoa, hbb, hrow⟩ := g3' (by omega)
            subst hoa
            have hs1 := hrow k hlt
            have hmulk : off + k * 33 + 33 ≤ off + k * 33 + 33 := Nat.le_refl _
            obtain ⟨p1, p2⟩ := vt_parts hs1
            have HPK := Lib.hid ((HPUT wr.drew u6 k hlt).out ((HO.out.drew).slIn vtL_length))
            clear hrow g3' hs1
            generalize b[k] = x at *
            go_wp2
            refine wp_region_quiet_tail 11 (by kernel_rfl) (by kernel_rfl) ?_
            simp only [List.take_succ_cons, List.take_zero, List.drop_succ_cons, List.drop_zero]
            repeat (go_big_quiet_step (fail))
            refine wpQuiet_nil ?_
            go_wp2_with fail
            refine HPK.out.mono ?_
            rintro e w6 ⟨v6, rfl, o6, b6⟩
            have HO6 := Lib.hid (o6.rebase (b' := w.heap.size) hzk)
            have B6 := Lib.hid (HK.out.drew.trans (b6.mono hzk))
            clear o6 b6 HPK
            go_wp2
            go_roundw
            case rel => exact ⟨k + 1, by omega, by go_num, HO6, B6⟩
            case measure => simp [intOf]; omega
          · have HG := HO.out
            rw [List.take_of_length_le (by omega)] at HG
            have HF := Lib.hid HG
            clear HG
            go_wp2
            go_ret2
            exact RetBag.ok HA.out HV.out HF.out HK.out
    · rw [hE2] at HC2
      have HA : Hid (mergeE a b = 70) := Lib.hid (by unfold mergeE; rw [if_pos hE, if_neg (by omega)])
      have HV : Hid (mergeW a b = []) := Lib.hid (by unfold mergeW; rw [HA.out]; rfl)
      clear hE hE2 HTA HTB
      go_enter Try.func37, Try.ntmps37
      go_wp2_with fail
      refine HC1.out.mono ?_
      rintro e w1 ⟨rfl, b1⟩
      have B1 := Lib.hid b1
      have HC2' := Lib.hid ((HC2 w1).out (H2.out.below b1))
      clear b1 HC1 HC2
      go_wp2_with fail
      refine HC2'.out.mono ?_
      rintro e w2 ⟨rfl, b2⟩
      have B2 := Lib.hid (B1.out.trans (b2.mono B1.out.size))
      clear b2 HC2'
      go_wp2
      go_ret2
      exact RetBag.err HA.out HV.out B2.out
  · rw [hE] at HC1
    have HA : Hid (mergeE a b = 70) := Lib.hid (by unfold mergeE; rw [if_neg (by omega)])
    have HV : Hid (mergeW a b = []) := Lib.hid (by unfold mergeW; rw [HA.out]; rfl)
    clear hE HTA HTB
    go_enter Try.func37, Try.ntmps37
    go_wp2_with fail
    refine HC1.out.mono ?_
    rintro e w1 ⟨rfl, b1⟩
    have B1 := Lib.hid b1
    clear b1 HC1 HC2
    go_wp2
    go_ret2
    exact RetBag.err HA.out HV.out B1.out
end Go.Proofs.Ytkjaabajomigkaa
