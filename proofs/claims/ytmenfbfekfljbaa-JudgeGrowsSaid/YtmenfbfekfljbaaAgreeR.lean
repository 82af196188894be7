import Derived.Test.YtmenfbfekfljbaaUnderR
namespace Go.Proofs.Ytmenfbfekfljbaa
open Go.RowKit

def clashR (xs : List FactD) (x y : FactD) : Bool := x.kind == 8 && y.kind == 8 && conflictR xs x.id y.id
def agreeR (xs : List FactD) : Bool := (List.range xs.length).all fun i => (List.range i).all fun k => !clashR xs (xs[i]!) (xs[k]!)
theorem agreeR_no {xs : List FactD} {i k : Nat} (hi : i < xs.length) (hk : k < i) (h : clashR xs xs[i] xs[k] = true) : agreeR xs = false := by
  unfold agreeR
  rw [List.all_eq_false]
  refine ⟨i, by simpa using hi, ?_⟩
  simp only [Bool.not_eq_true, List.all_eq_false, List.mem_range]
  refine ⟨k, hk, ?_⟩
  rw [getElem!_pos xs i hi, getElem!_pos xs k (by omega), h]
  decide
theorem agreeR_yes {xs : List FactD} (h : ∀ i (hi : i < xs.length) k (hk : k < i), clashR xs xs[i] (xs[k]'(by omega)) = false) : agreeR xs = true := by
  unfold agreeR
  simp only [List.all_eq_true, List.mem_range]
  intro i hi k hk
  rw [getElem!_pos xs i hi, getElem!_pos xs k (by omega), h i hi k hk]
  rfl

set_option maxRecDepth 100000 in
set_option maxHeartbeats 1000000 in
theorem ref_agree_any (w : World) (v : Value) (xs : List FactD) (h : SlIn w v 72 factL xs) (hlen : xs.length ≤ 1000) :
    Calls Try.prog 16 #[v] w fun e w' => e = .returned (.bool (agreeR xs)) ∧ Below w.heap.size w w' := by
  have HS := Lib.hid h
  obtain ⟨oa, cap, rfl, h1, h2, h3⟩ := h
  unfold maxLen at h2
  have H3 := Lib.hid h3
  clear h3
  go_enter Try.func16, Try.ntmps16
  go_wp2
  go_loopw [3, 4] (fun v3 _ wr => ∃ i : Nat, i ≤ xs.length ∧ v3 = .int .i64 i ∧ Hid (∀ i' (hi : i' < xs.length) k (hk : k < i'), i' < i → clashR xs xs[i'] (xs[k]'(by omega)) = false) ∧ Below w.heap.size w wr) (fun i _ _ => xs.length - (intOf i).toNat)
  case atStart => exact ⟨0, by omega, rfl, Lib.hid (by omega), Below.refl _ _⟩
  case round =>
    obtain ⟨i, hi, rfl, HI, hb⟩ := hrel
    obtain ⟨wo, rfl⟩ : ∃ wo : World, wo = wr := ⟨_, rfl⟩
    by_cases hlt : i < xs.length
    · go_wp2
      go_loopw [4] (fun v4 wr => ∃ k : Nat, k ≤ i ∧ v4 = .int .i64 k ∧ Hid (∀ k' (hk : k' < i), k' < k → clashR xs xs[i] (xs[k']'(by omega)) = false) ∧ Below w.heap.size w wr) (fun k _ => i - (intOf k).toNat)
      case atStart => exact ⟨0, by omega, rfl, Lib.hid (by omega), hb⟩
      case round =>
        obtain ⟨k, hk, rfl, HK, hbr⟩ := hrel
        by_cases hkt : k < i
        · obtain ⟨b, off, hoa, hbb, hrow⟩ := H3.out (by omega)
          subst hoa
          have hs1 := hrow i hlt
          have hs2 := hrow k (by omega)
          rw [← obj_below hbr hbb] at hs1 hs2
          have hbl : b < wr.heap.size := Nat.lt_of_lt_of_le hbb hbr.size
          have NO := Lib.hid (agreeR_no hlt hkt)
          have CL : Hid (clashR xs xs[i] xs[k] = (xs[i].kind == 8 && xs[k].kind == 8 && conflictR xs xs[i].id xs[k].id)) := Lib.hid rfl
          have CC := fun W (hb : Below w.heap.size w W) => ref_conflict_any W _ xs xs[i].id xs[k].id (HS.out.below hb) hlen
          have NX : Hid (clashR xs xs[i] xs[k] = false → ∀ k' (hk : k' < i), k' < k + 1 → clashR xs xs[i] (xs[k']'(by omega)) = false) := Lib.hid (fun h k' hk' hlt' => by
            by_cases e : k' = k
            · subst e; exact h
            · exact HK.out k' hk' (by omega))
          generalize clashR xs xs[i] xs[k] = c at *
          generalize hx : xs[i] = x at *
          generalize hy : xs[k] = y at *
          generalize conflictR xs x.id y.id = cf at *
          obtain ⟨⟨_, c1, _, _⟩, ⟨s4, _⟩, _⟩ := fact_parts hs1
          obtain ⟨⟨_, d1, _, _⟩, ⟨t4, _⟩, _⟩ := fact_parts hs2
          have HC := Lib.hid CC
          clear hs1 hs2 hrow hx hy CC
          have hsz := hbr.size
          have HL := Lib.hid fun u : Later wr => Calls.later (x := u) (HC.out u.w (hbr.trans (u.h.mono hsz)))
          by_cases hk1 : x.kind = 8
          · have e1 : (x.kind == 8) = true := by simpa using hk1
            by_cases hk2 : y.kind = 8
            · have e2 : (y.kind == 8) = true := by simpa using hk2
              have hc : c = cf := by rw [CL.out, e1, e2]; rfl
              subst hc
              clear hk1 hk2 CL
              go_wp2
              refine wp_region_later wr (Below.refl _ _) (by kernel_rfl) (by kernel_rfl) ?_
              repeat (go_big_quiet_step ((go_at_call 26; with_reducible exact HL.out _)))
              refine wpQuiet_nil ?_
              rintro w2 ⟨u, rfl⟩
              have b2 : Below w.heap.size w u.w := hbr.trans (u.h.mono hsz)
              cases c
              · go_wp2
                go_roundw
                case rel => exact ⟨k + 1, by omega, by go_num, Lib.hid (NX.out (by first | rfl | trivial)), b2⟩
                case measure => simp [intOf]; omega
              · go_wp2
                go_ret
                exact ⟨ret_bool (NO.out (by first | rfl | trivial)).symm, b2⟩
            · have e2 : (y.kind == 8) = false := by simpa using hk2
              have hc : c = false := by rw [CL.out, e2]; simp
              subst hc
              clear hk1 hk2 CL
              go_wp2
              refine wp_region_later wr (Below.refl _ _) (by kernel_rfl) (by kernel_rfl) ?_
              repeat (go_big_quiet_step ((go_at_call 26; with_reducible exact HL.out _)))
              refine wpQuiet_nil ?_
              rintro w2 ⟨u, rfl⟩
              have b2 : Below w.heap.size w u.w := hbr.trans (u.h.mono hsz)
              go_wp2
              go_roundw
              case rel => exact ⟨k + 1, by omega, by go_num, Lib.hid (NX.out (by first | rfl | trivial)), b2⟩
              case measure => simp [intOf]; omega
          · have e1 : (x.kind == 8) = false := by simpa using hk1
            have hc : c = false := by rw [CL.out, e1]; simp
            subst hc
            clear hk1 CL
            go_wp2
            refine wp_region_later wr (Below.refl _ _) (by kernel_rfl) (by kernel_rfl) ?_
            repeat (go_big_quiet_step ((go_at_call 26; with_reducible exact HL.out _)))
            refine wpQuiet_nil ?_
            rintro w2 ⟨u, rfl⟩
            have b2 : Below w.heap.size w u.w := hbr.trans (u.h.mono hsz)
            go_wp2
            go_roundw
            case rel => exact ⟨k + 1, by omega, by go_num, Lib.hid (NX.out (by first | rfl | trivial)), b2⟩
            case measure => simp [intOf]; omega
        · have hki : k = i := by omega
          subst hki
          go_wp2
          go_roundw
          case rel => exact ⟨k + 1, by omega, by go_num, Lib.hid (fun i' hi' k' hk' hlt' => by
              by_cases e : i' = k
              · subst e; exact HK.out k' hk' hk'
              · exact HI.out i' hi' k' hk' (by omega)), hbr⟩
          case measure => simp [intOf]; omega
    · have hil : i = xs.length := by omega
      subst hil
      go_wp2
      go_ret
      exact ⟨ret_bool (agreeR_yes fun i hi k hk => HI.out i hi k hk hi).symm, hb⟩
end Go.Proofs.Ytmenfbfekfljbaa
