import Derived.Test.YtmenfbfekfljbaaPolls
import Derived.Test.YtmenfbfekfljbaaVotesR
namespace Go.Proofs.Ytmenfbfekfljbaa
open Go.RowKit

/-- the place of the poll's opening, or -1 -/
def OpAt (nd pl : Int) (xs : List FactD) (k : Nat) (ov : Int) : Prop := (ov = -1 ∧ openedM nd pl (xs.take k) = none) ∨ ∃ q : Nat, ∃ h : q < xs.length, q < k ∧ ov = q ∧ openedM nd pl (xs.take k) = some xs[q].move
theorem OpAt.yes {nd pl : Int} {xs : List FactD} {k : Nat} (hk : k < xs.length) (h : opn nd pl xs[k] = true) : OpAt nd pl xs (k + 1) k :=
  .inr ⟨k, hk, Nat.lt_succ_self k, rfl, by rw [List.take_succ_eq_append_getElem hk, openedM_snoc, if_pos h]⟩
theorem OpAt.no {nd pl ov : Int} {xs : List FactD} {k : Nat} (hk : k < xs.length) (h : opn nd pl xs[k] = false) (ho : OpAt nd pl xs k ov) : OpAt nd pl xs (k + 1) ov := by
  have e : openedM nd pl (xs.take (k + 1)) = openedM nd pl (xs.take k) := by rw [List.take_succ_eq_append_getElem hk, openedM_snoc, if_neg (by rw [h]; simp)]
  rcases ho with ⟨h1, h2⟩ | ⟨q, hq, h1, h2, h3⟩
  · exact .inl ⟨h1, by rw [e]; exact h2⟩
  · exact .inr ⟨q, hq, Nat.lt_succ_of_lt h1, h2, by rw [e]; exact h3⟩
set_option maxRecDepth 100000 in
set_option maxHeartbeats 4000000 in
/-- flurryref26.Polls -/
theorem pollsR_any (w : World) (p : PlanD) (v : Value) (zs : List FactX) (nd fr : Int) (id : ID) (h : SlIn w v 72 fxL zs) (hlen : zs.length ≤ 1000) (hin : ∀ z ∈ zs, Inner w z) (hal : -9223372036854775808 ≤ p.al2 ∧ p.al2 ≤ 9223372036854775807) (hvn : ∀ z ∈ zs, ∀ x ∈ z.vs, x.n ≤ 9223372036854775807) :
    Calls Try.prog 35 #[.agg (planL p).toArray, v, .int .i64 nd, .int .i64 fr, .agg (idL id).toArray] w fun e w' => e = .returned (.int .i64 (pollsF zs nd fr p.al2 id zs.length)) ∧ Below w.heap.size w w' := by
  have HS : Hid (SlIn w v 72 factL (zs.map (·.x))) := Lib.hid (SlIn.map.2 h)
  have HLX : Hid ((zs.map (·.x)).length = zs.length) := Lib.hid (List.length_map _)
  have HIN := Lib.hid hin
  have HVN := Lib.hid hvn
  have B0 := Lib.hid (((Below.refl _ w).alloc (Nat.le_refl _) (.cells (planL p).toArray 41)).alloc (by simp) (.cells (idL id).toArray 45))
  have O0 : Hid (obj ((w.alloc (.cells (planL p).toArray 41)).alloc (.cells (idL id).toArray 45)) w.heap.size = some (.cells (planL p).toArray 41 (0, 0))) := Lib.hid ((obj_alloc_past _ _ _ (by simp)).trans (obj_alloc_at _ _ _ rfl))
  have O1 : Hid (obj ((w.alloc (.cells (planL p).toArray 41)).alloc (.cells (idL id).toArray 45)) (w.heap.size + 1) = some (.cells (idL id).toArray 45 (0, 0))) := Lib.hid (obj_alloc_at _ _ _ (by simp))
  have hz0 : ((w.alloc (.cells (planL p).toArray 41)).alloc (.cells (idL id).toArray 45)).heap.size = w.heap.size + 2 := by simp
  have hwl : IntKind.i64.wrap ((zs.length : Int) - 1) = (zs.length : Int) - 1 := by simp [IntKind.wrap, IntKind.signed, IntKind.bits]; omega
  obtain ⟨oa, cap, rfl, h1, h2, h3⟩ := h
  unfold maxLen at h2
  have H3 := Lib.hid h3
  generalize hT : pollsF zs nd fr p.al2 id zs.length = T at *
  clear h3 hin hvn
  go_enter Try.func35, Try.ntmps35
  go_wp2
  generalize (w.alloc (.cells (planL p).toArray 41)).alloc (.cells (idL id).toArray 45) = w0 at *
  generalize hB : w.heap.size = B at *
  go_loopw [11, 12, 13, 14] (fun v11 v12 _ _ wr => ∃ (j : Nat) (iv n : Int), j ≤ zs.length ∧ v12 = .int .i64 iv ∧ v11 = .int .i64 n ∧ Hid (iv = (j : Int) - 1) ∧ Hid (0 ≤ n ∧ n + j ≤ zs.length) ∧ Hid (n + pollsF zs nd fr p.al2 id j = T) ∧ Hid (Below (B + 2) w0 wr)) (fun _ i _ _ _ => (intOf i + 1).toNat)
  case atStart => exact ⟨zs.length, _, 0, Nat.le_refl _, rfl, rfl, Lib.hid rfl, Lib.hid (by omega), Lib.hid (by rw [hT]; omega), Lib.hid (Below.refl _ _)⟩
  case round =>
    obtain ⟨j, iv, n, hj, rfl, rfl, HI, HN, HZ, HQ⟩ := hrel
    have hzq := HQ.out.size
    have HQW := Lib.hid (B0.out.trans (HQ.out.mono (by omega)))
    cases j with
    | zero =>
      have d0 : decide ((0 : Int) ≤ iv) = false := decide_eq_false (by have := HI.out; omega)
      have HG : Hid (n = T) := Lib.hid (by have := HZ.out; simpa [pollsF] using this)
      go_wp2
      go_ret
      exact ⟨ret_int HG.out, by rw [hB]; exact HQW.out⟩
    | succ i =>
      have hiv : iv = (i : Int) := by have := HI.out; omega
      subst hiv
      have hiz : i < zs.length := by omega
      have d0 : decide ((0 : Int) ≤ (i : Int)) = true := by simp
      have hwi : IntKind.i64.wrap ((i : Int) - 1) = (i : Int) - 1 := by simp [IntKind.wrap, IntKind.signed, IntKind.bits]; omega
      have HZ2 := HZ.out
      rw [pollsF_succ hiz] at HZ2
      have HZZ := Lib.hid HZ2
      obtain ⟨b, off, hoa, hbb, hrow⟩ := H3.out (by omega)
      subst hoa
      have HROW : Hid (∀ W, Below B w W → ∀ k (h : k < zs.length), subOf (obj W b) (off + k * 72) 72 = some (factL zs[k].x).toArray) := Lib.hid (fun W hW k h => by have := hrow k h; rw [← obj_below hW (by omega)] at this; exact this)
      have hmulk : off + i * 72 + 72 ≤ off + i * 72 + 72 := Nat.le_refl _
      have hbr : b < wr.heap.size := by omega
      obtain ⟨⟨_, p1, p2, _⟩, _, ⟨_, p69, _, p71⟩⟩ := fact_parts (HROW.out wr HQW.out i hiz)
      have hNN := HN.out
      clear hrow HZ2 HI
      by_cases hkk : zs[i].x.kind = 7 ∧ zs[i].x.node = nd
      · have e7 : (zs[i].x.kind != 7) = false := by simp [hkk.1]
        have en : (zs[i].x.node != nd) = false := by simp [hkk.2]
        have HZ3 : Hid (n + (if okP zs nd fr p.al2 id i zs[i] = true then pollsF zs nd fr p.al2 id i + 1 else 0) = T) := Lib.hid (by
          have := HZZ.out
          rw [if_pos hkk] at this
          exact this)
        have HIZ := Lib.hid (HIN.out zs[i] (List.getElem_mem hiz)).2
        have hvz := HVN.out zs[i] (List.getElem_mem hiz)
        have HRI := Lib.hid (fun W (hW : Below B w W) => HROW.out W hW i hiz)
        generalize hzi : zs[i] = z at *
        have HZI := Lib.hid hzi
        have hbw0 : b < w0.heap.size := by omega
        clear hkk HZZ hzi
        go_wp2
        clear p1 p2 p69 p71
        go_loopw [13, 14] (fun v13 v14 wr => ∃ (k : Nat) (ov : Int), k ≤ i ∧ v14 = .int .i64 k ∧ v13 = .int .i64 ov ∧ Hid (OpAt nd z.x.poll (zs.map (·.x)) k ov) ∧ Hid (Below (B + 2) w0 wr)) (fun _ k _ => i - (intOf k).toNat)
        case atStart => exact ⟨0, -1, Nat.zero_le _, rfl, rfl, Lib.hid (.inl ⟨rfl, rfl⟩), HQ⟩
        case round =>
          obtain ⟨k, ov, hk, rfl, rfl, HOP, HJ⟩ := hrel
          have hzj := HJ.out.size
          have HJW := Lib.hid (B0.out.trans (HJ.out.mono (by omega)))
          have hbl : b < wr.heap.size := by omega
          obtain ⟨_, _, ⟨_, p69, _, p71⟩⟩ := fact_parts (HRI.out wr HJW.out)
          by_cases hki : k < i
          · have hkz : k < zs.length := by omega
            obtain ⟨⟨_, c1, c2, _⟩, _, ⟨_, c69, _, _⟩⟩ := fact_parts (HROW.out wr HJW.out k hkz)
            have hmulk2 : off + k * 72 + 72 ≤ off + k * 72 + 72 := Nat.le_refl _
            have hkx : k < (zs.map (·.x)).length := by rw [HLX.out]; exact hkz
            have HY := Lib.hid (OpAt.yes (nd := nd) (pl := z.x.poll) hkx)
            have HNN := Lib.hid (OpAt.no (nd := nd) (pl := z.x.poll) (ov := ov) hkx)
            have hgx : (zs.map (·.x))[k] = zs[k].x := by simp
            rw [hgx] at HY HNN
            have HO : Hid (opn nd z.x.poll zs[k].x = (zs[k].x.kind == 5 && zs[k].x.node == nd && zs[k].x.poll == z.x.poll)) := Lib.hid rfl
            clear hgx hkx p71
            generalize zs[k].x = y at *
            cases e5 : y.kind == 5
            · have HNO := Lib.hid (HNN.out (by rw [HO.out, e5]; rfl) HOP.out)
              go_wp2
              go_quiet (fail)
              go_wp2
              go_roundw
              case rel => exact ⟨k + 1, _, by omega, by go_num, rfl, HNO, Lib.hid (below_drewN HJ.out _)⟩
              case measure => simp [intOf]; omega
            · cases en5 : y.node == nd
              · have HNO := Lib.hid (HNN.out (by rw [HO.out, e5, en5]; rfl) HOP.out)
                go_wp2
                go_quiet (fail)
                go_wp2
                go_roundw
                case rel => exact ⟨k + 1, _, by omega, by go_num, rfl, HNO, Lib.hid (below_drewN HJ.out _)⟩
                case measure => simp [intOf]; omega
              · cases ep : y.poll == z.x.poll
                · have HNO := Lib.hid (HNN.out (by rw [HO.out, e5, en5, ep]; rfl) HOP.out)
                  go_wp2
                  go_quiet (fail)
                  go_wp2
                  go_roundw
                  case rel => exact ⟨k + 1, _, by omega, by go_num, rfl, HNO, Lib.hid (below_drewN HJ.out _)⟩
                  case measure => simp [intOf]; omega
                · have HNO := Lib.hid (HY.out (by rw [HO.out, e5, en5, ep]; rfl))
                  go_wp2
                  go_quiet (fail)
                  go_wp2
                  go_roundw
                  case rel => exact ⟨k + 1, _, by omega, by go_num, rfl, HNO, Lib.hid (below_drewN HJ.out _)⟩
                  case measure => simp [intOf]; omega
          · have hke : k = i := by omega
            have hop := HOP.out
            rw [hke] at hop
            have oP := (obj_below HJ.out (by omega)).trans O0.out
            have oI := (obj_below HJ.out (by omega)).trans O1.out
            obtain ⟨_, pc2, _⟩ := plan_cells oP
            have pI : subOf (obj wr (B + 1)) 0 32 = some (idL id).toArray := by rw [oI, subOf_cells (by simp), subA_all (by simp)]
            have hPl := lt_of_obj oP
            have hIl := lt_of_obj oI
            unfold slV at p71
            clear oP oI HOP
            rcases hop with ⟨rfl, hno⟩ | ⟨q, hqx, hqi, rfl, hmv⟩
            · have HOK : Hid (okP zs nd fr p.al2 id i z = false) := Lib.hid (okP_none hno)
              have HG : Hid (n = T) := Lib.hid (by
                have := HZ3.out
                rw [HOK.out] at this
                simpa using this)
              clear hno
              go_wp2
              go_quiet (fail)
              go_wp2
              go_ret
              exact ⟨ret_int HG.out, by rw [hB]; exact below_drewN HJW.out _⟩
            · have hqz : q < zs.length := by omega
              have hgx : (zs.map (·.x))[q] = zs[q].x := by simp
              rw [hgx] at hmv
              obtain ⟨⟨c0, _, _, _⟩, _, _⟩ := fact_parts (HROW.out wr HJW.out q hqz)
              have hmulq : off + q * 72 + 72 ≤ off + q * 72 + 72 := Nat.le_refl _
              have HOKS := Lib.hid (okP_some (zs := zs) (nd := nd) (fr := fr) (al := p.al2) (id := id) hmv)
              have dq : decide ((q : Int) < 0) = false := decide_eq_false (by omega)
              clear hgx hmv hqx
              generalize zs[q].x.move = mm at *
              have HVO := Lib.hid (fun y : Later wr => (show Calls Try.prog 55 #[.slice (some ⟨b, off, none⟩) zs.length cap, .slice z.x.votes.a z.x.votes.len z.x.votes.cap, .agg (idL id).toArray, .int .i64 p.al2] y.w _ from votesR_any y.w _ (zs.map (·.x)) (slV z.x.votes) z.vs id p.al2 (HS.out.below (by rw [hB]; exact HJW.out.trans (y.h.mono (by omega)))) (by rw [HLX.out]; exact hlen) (HIZ.out.below (by rw [hB]; exact HJW.out.trans (y.h.mono (by omega)))) hal hvz))
              rw [votes_eq] at HVO
              generalize enoughF (fun a => underM (zs.map (·.x)) a id) p.al2 z.vs = en2 at *
              by_cases hm : mm < fr
              · have dm : decide (mm < fr) = true := by simpa using hm
                have HOK : Hid (okP zs nd fr p.al2 id i z = false) := Lib.hid (by rw [HOKS.out, dm]; rfl)
                have HG : Hid (n = T) := Lib.hid (by
                  have := HZ3.out
                  rw [HOK.out] at this
                  simpa using this)
                clear hm
                go_wp2
                go_quiet (fail)
                go_wp2
                go_ret
                exact ⟨ret_int HG.out, by rw [hB]; exact below_drewN HJW.out _⟩
              · have dm : decide (mm < fr) = false := by simpa using hm
                clear hm
                cases en2 with
                | false =>
                  have HOK : Hid (okP zs nd fr p.al2 id i z = false) := Lib.hid (by rw [HOKS.out]; simp)
                  have HG : Hid (n = T) := Lib.hid (by
                    have := HZ3.out
                    rw [HOK.out] at this
                    simpa using this)
                  go_wp2
                  refine wp_region_later wr (Below.refl _ _) (by kernel_rfl) (by kernel_rfl) ?_
                  repeat (go_big_quiet_step (first | (go_at_call 55; with_reducible exact Calls.later (HVO.out _)) | fail))
                  refine wpQuiet_nil ?_
                  intro _ hx
                  obtain ⟨⟨wz, hbz⟩, hx⟩ := hx
                  subst hx
                  rename_i wz
                  have HF := Lib.hid (HJW.out.trans (hbz.mono (by omega)))
                  clear hbz
                  go_wp2
                  go_ret
                  exact ⟨ret_int HG.out, by rw [hB]; exact HF.out⟩
                | true =>
                  have HOK : Hid (okP zs nd fr p.al2 id i z = true) := Lib.hid (by rw [HOKS.out, dm]; rfl)
                  have HNX : Hid (n + 1 + pollsF zs nd fr p.al2 id i = T) := Lib.hid (by
                    have := HZ3.out
                    rw [HOK.out, if_pos rfl] at this
                    omega)
                  have hwr : IntKind.i64.wrap (n + 1) = n + 1 := by simp [IntKind.wrap, IntKind.signed, IntKind.bits]; omega
                  go_wp2
                  refine wp_region_later wr (Below.refl _ _) (by kernel_rfl) (by kernel_rfl) ?_
                  repeat (go_big_quiet_step (first | (go_at_call 55; with_reducible exact Calls.later (HVO.out _)) | fail))
                  refine wpQuiet_nil ?_
                  intro _ hx
                  obtain ⟨⟨wz, hbz⟩, hx⟩ := hx
                  subst hx
                  rename_i wz
                  have HF := Lib.hid (HJ.out.trans (hbz.mono (by omega)))
                  clear hbz
                  go_wp2
                  go_roundw
                  case rel => exact ⟨i, _, n + 1, by omega, rfl, rfl, Lib.hid rfl, Lib.hid (by omega), HNX, HF⟩
                  case measure => simp [intOf] <;> omega
      · have HNX : Hid (n + pollsF zs nd fr p.al2 id i = T) := Lib.hid (by
          have := HZZ.out
          rw [if_neg hkk] at this
          exact this)
        by_cases hk7 : zs[i].x.kind = 7
        · have e7 : (zs[i].x.kind != 7) = false := by simp [hk7]
          have en : (zs[i].x.node != nd) = true := by
            have : ¬ zs[i].x.node = nd := fun h => hkk ⟨hk7, h⟩
            simp [this]
          clear hkk hk7 HZZ
          generalize zs[i].x = x at *
          go_wp2
          go_roundw
          case rel => exact ⟨i, _, n, by omega, rfl, rfl, Lib.hid rfl, Lib.hid (by omega), HNX, HQ⟩
          case measure => simp [intOf] <;> omega
        · have e7 : (zs[i].x.kind != 7) = true := by simp [hk7]
          clear hkk hk7 HZZ
          generalize zs[i].x = x at *
          go_wp2
          go_roundw
          case rel => exact ⟨i, _, n, by omega, rfl, rfl, Lib.hid rfl, Lib.hid (by omega), HNX, HQ⟩
          case measure => simp [intOf] <;> omega
end Go.Proofs.Ytmenfbfekfljbaa
