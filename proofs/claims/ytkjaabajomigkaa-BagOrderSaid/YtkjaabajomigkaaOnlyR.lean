import Derived.Test.YtkjaabajomigkaaOnly
namespace Go.Proofs.Ytkjaabajomigkaa
open Go.RowKit

set_option maxRecDepth 100000 in
set_option maxHeartbeats 2000000 in
/-- flurryref07.Only -/
theorem onlyR_any (w : World) (va vi : Value) (l : List Vt) (ids : List ID) (h1 : SlIn w va 33 vtL l) (h2 : SlIn w vi 32 idL ids) (hlen : l.length ≤ 1048576) : Calls Try.prog 36 #[va, vi] w (RetOwn w 33 33 vtL (onlyV l ids)) := by
  have HSL := Lib.hid h1
  have H2 := Lib.hid h2
  have HT0 : Hid (bagE l = 0 → onlyV l ids = l.filter fun x => decide (x.id ∈ ids)) := Lib.hid (fun hE => by unfold onlyV; rw [goodV_of hE])
  have HT7 : Hid (bagE l = 70 → onlyV l ids = []) := Lib.hid (fun hE => by unfold onlyV; rw [goodV_70 hE]; rfl)
  have HE := Lib.hid (bagE_cases l)
  obtain ⟨oa, cap, rfl, g1, g2, _⟩ := h1
  obtain ⟨ob, cb, rfl, k1, k2, _⟩ := h2
  unfold maxLen at g2 k2
  generalize onlyV l ids = T at *
  go_enter Try.func36, Try.ntmps36
  go_wp2
  go_loopw [5, 6] (fun v5 v6 wr => ∃ (k : Nat), k ≤ l.length ∧ v6 = .int .i64 k ∧ Hid (k = 0 ∨ bagE l = 0) ∧ Hid (OwnS wr w.heap.size 33 33 vtL v5 ((l.take k).filter fun x => decide (x.id ∈ ids))) ∧ Hid (Below w.heap.size w wr)) (fun _ i _ => l.length - (intOf i).toNat)
  case atStart => exact ⟨0, Nat.zero_le _, rfl, Lib.hid (.inl rfl), Lib.hid (OwnS.nil _ _ _ _ _), Lib.hid (Below.refl _ _)⟩
  case round =>
    obtain ⟨k, hk, rfl, HZ, HO, HK⟩ := hrel
    have hzk := HK.out.size
    by_cases hlt : k < l.length
    · have dl : decide ((k : Int) < l.length) = true := by simp; omega
      have HC := Lib.hid (checkR_any wr _ l (HSL.out.below HK.out))
      rcases HE.out with hE | hE
      · rw [hE] at HC
        have HEE := Lib.hid hE
        clear hE
        go_wp2_with fail
        refine HC.out.mono ?_
        rintro e w1 ⟨rfl, b1⟩
        have hz1 := b1.size
        have HK1 := Lib.hid (HK.out.trans (b1.mono hzk))
        have HO1 := Lib.hid (HO.out.below b1)
        clear b1 HC HO
        generalize u5 = v5 at *
        have hn : Hid (((l.take (k + 1)).filter fun x => decide (x.id ∈ ids)) = ((l.take k).filter fun x => decide (x.id ∈ ids)) ++ if l[k].id ∈ ids then [l[k]] else []) := Lib.hid (by
          rw [List.take_succ_eq_append_getElem hlt, List.filter_append]
          congr 1
          by_cases hx : l[k].id ∈ ids <;> simp [hx])
        have hln : Hid (((l.take k).filter fun x => decide (x.id ∈ ids)).length ≤ 1048576) := Lib.hid (by
          have := List.length_filter_le (fun x : Vt => decide (x.id ∈ ids)) (l.take k)
          rw [List.length_take] at this
          omega)
        have HXK : Hid (∀ W : World, Below w.heap.size w W → ∃ b off, oa = some ⟨b, off, none⟩ ∧ b < W.heap.size ∧ subOf (obj W b) (off + k * 33) 33 = some (vtL l[k]).toArray) := Lib.hid (fun W hW => by
          obtain ⟨oa', cap', e1, _, _, g3'⟩ := HSL.out.below hW
          simp only [Value.slice.injEq] at e1
          obtain ⟨rfl, _, rfl⟩ := e1
          obtain ⟨b, off, hoa, hbb, hrow⟩ := g3' (by omega)
          exact ⟨b, off, hoa, hbb, hrow k hlt⟩)
        generalize l[k] = x at *
        generalize (l.take k).filter (fun x => decide (x.id ∈ ids)) = ws at *
        go_wp2
        go_loopw [7, 8] (fun v7 v8 wr => ∃ (j : Nat), j ≤ ids.length ∧ v8 = .int .i64 j ∧ v7 = .bool (decide (x.id ∈ ids.take j)) ∧ Hid (Below w1.heap.size w1 wr)) (fun _ i _ => ids.length - (intOf i).toNat)
        case atStart => exact ⟨0, Nat.zero_le _, rfl, by simp, Lib.hid (Below.refl _ _)⟩
        case round =>
          obtain ⟨j, hj, rfl, rfl, HQ⟩ := hrel
          have hzq := HQ.out.size
          have HQK := Lib.hid (HK1.out.trans (HQ.out.mono (by omega)))
          by_cases hjt : j < ids.length
          · obtain ⟨oa', cap', e1, _, _, g3'⟩ := H2.out.below HQK.out
            simp only [Value.slice.injEq] at e1
            obtain ⟨rfl, _, rfl⟩ := e1
            obtain ⟨bi, offi, hoi, hbi, hrowi⟩ := g3' (by omega)
            subst hoi
            obtain ⟨b, off, hoa, hbb, hs2⟩ := HXK.out wr HQK.out
            subst hoa
            have hs1 := hrowi j hjt
            have hmulk : off + k * 33 + 33 ≤ off + k * 33 + 33 := Nat.le_refl _
            have hmulj : offi + j * 32 + 32 ≤ offi + j * 32 + 32 := Nat.le_refl _
            obtain ⟨p1, _⟩ := vt_parts hs2
            have hnx : Hid (decide (x.id ∈ ids.take (j + 1)) = (decide (x.id ∈ ids.take j) || decide (ids[j] = x.id))) := Lib.hid (by
              rw [List.take_succ_eq_append_getElem hjt]
              rw [Bool.eq_iff_iff]
              simp only [List.mem_append, List.mem_singleton, decide_eq_true_eq, Bool.or_eq_true]
              rw [eq_comm (a := x.id) (b := ids[j])])
            clear hrowi g3' hs2
            generalize ids[j] = y at *
            generalize decide (x.id ∈ ids.take j) = t at *
            cases t with
            | true =>
              rw [Bool.true_or] at hnx
              go_wp2
              go_quiet (fail)
              go_wp2
              go_roundw
              case rel => exact ⟨j + 1, by omega, by go_num, by rw [hnx.out], Lib.hid (below_drewN HQ.out _)⟩
              case measure => simp [intOf]; omega
            | false =>
              rw [Bool.false_or] at hnx
              by_cases e : y = x.id
              · have de : decide (y = x.id) = true := by simpa using e
                rw [de] at hnx
                clear e
                go_wp2
                go_quiet (fail)
                go_wp2
                go_roundw
                case rel => exact ⟨j + 1, by omega, by go_num, by rw [hnx.out], Lib.hid (below_drewN HQ.out _)⟩
                case measure => simp [intOf]; omega
              · have de : decide (y = x.id) = false := by simpa using e
                rw [de] at hnx
                clear e
                go_wp2
                go_quiet (fail)
                go_wp2
                go_roundw
                case rel => exact ⟨j + 1, by omega, by go_num, by rw [hnx.out], Lib.hid (below_drewN HQ.out _)⟩
                case measure => simp [intOf]; omega
          · have hjl : ids.take j = ids := List.take_of_length_le (by omega)
            rw [hjl]
            have HO2 := Lib.hid (HO1.out.below HQ.out)
            obtain ⟨b, off, hoa, hbb, hs2⟩ := HXK.out wr HQK.out
            subst hoa
            have hmulk : off + k * 33 + 33 ≤ off + k * 33 + 33 := Nat.le_refl _
            by_cases hx : x.id ∈ ids
            · have dx : decide (x.id ∈ ids) = true := by simpa using hx
              rw [dx]
              rw [if_pos hx] at hn
              clear hx
              go_wp2_with (at_builtin; refine push22 rfl _ _ rfl w.heap.size v5 ws x rfl (HO2.out.alloc _) wr.heap.size rfl (obj_alloc_at _ _ _ rfl) hln.out (by simp; omega) ?_; intro v' w' hO' hB' _; have HO' := Lib.hid hO'; have HB' := Lib.hid ((HQK.out.alloc (by omega) _).trans hB'); clear hO' hB')
              go_roundw
              case rel => exact ⟨k + 1, by omega, by go_num, Lib.hid (.inr HEE.out), by rw [hn.out]; exact HO', HB'⟩
              case measure => simp [intOf]; omega
            · have dx : decide (x.id ∈ ids) = false := by simpa using hx
              rw [dx]
              rw [if_neg hx, List.append_nil] at hn
              clear hx
              go_wp2
              go_roundw
              case rel => exact ⟨k + 1, by omega, by go_num, Lib.hid (.inr HEE.out), by rw [hn.out]; exact HO2, HQK⟩
              case measure => simp [intOf]; omega
      · rw [hE] at HC
        have HN : Hid (OwnS wr w.heap.size 33 33 vtL u5 T) := Lib.hid (by
          rw [HT7.out hE]
          rcases HZ.out with rfl | h
          · exact HO.out
          · omega)
        clear hE
        go_wp2_with fail
        refine HC.out.mono ?_
        rintro e w1 ⟨rfl, b1⟩
        have HK1 := Lib.hid (HK.out.trans (b1.mono hzk))
        have HN1 := Lib.hid (HN.out.below b1)
        clear b1 HC
        go_wp2
        go_ret
        exact ⟨_, rfl, HN1.out, HK1.out⟩
    · have dl : decide ((k : Int) < l.length) = false := by simp; omega
      have HG : Hid (OwnS wr w.heap.size 33 33 vtL u5 T) := Lib.hid (by
        have hkl : k = l.length := by omega
        have h0 := HO.out
        rcases HE.out with hE | hE
        · rw [HT0.out hE]; rw [hkl, List.take_length] at h0; exact h0
        · rw [HT7.out hE]
          rcases HZ.out with h | h
          · rw [h] at h0; exact h0
          · omega)
      go_wp2
      go_ret
      exact ⟨_, rfl, HG.out, HK.out⟩
end Go.Proofs.Ytkjaabajomigkaa
