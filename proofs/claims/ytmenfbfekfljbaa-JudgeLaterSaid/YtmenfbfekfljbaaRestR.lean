import Derived.Test.YtmenfbfekfljbaaPredF
import Derived.Test.YtmenfbfekfljbaaSamp
namespace Go.Proofs.Ytmenfbfekfljbaa
open Go.RowKit

set_option maxRecDepth 100000 in
set_option maxHeartbeats 4000000 in
/-- flurryref26.Restarts -/
theorem restartsR_any (w : World) (v : Value) (xs : List FactD) (fr : Int) (h : SlIn w v 72 factL xs) :
    Calls Try.prog 33 #[v, .int .i64 fr] w fun e w' => e = .returned (.bool (xs.any (restB fr))) ∧ Below w.heap.size w w' := by
  have HN : Hid (∀ k (hk : k < xs.length), restB fr xs[k] = true → true = xs.any (restB fr)) := Lib.hid fun k hk hx => by rw [any_yes hk hx]
  have HY : Hid ((∀ k (hk : k < xs.length), k < xs.length → restB fr xs[k] = false) → false = xs.any (restB fr)) := Lib.hid fun hx => by rw [any_no hx]
  have HBD : Hid (∀ x, restB fr x = (decide (fr ≤ x.move) && (x.kind == 11 || x.kind == 10))) := Lib.hid fun x => rfl
  obtain ⟨oa, cap, rfl, h1, h2, h3⟩ := h
  unfold maxLen at h2
  have H3 := Lib.hid h3
  clear h3
  generalize xs.any (restB fr) = r at *
  go_enter Try.func33, Try.ntmps33
  go_wp2
  go_loopw [5] (fun v5 wr => ∃ (k : Nat), k ≤ xs.length ∧ v5 = .int .i64 k ∧ Hid (∀ j (hj : j < xs.length), j < k → restB fr xs[j] = false) ∧ Hid (Below w.heap.size w wr)) (fun i _ => xs.length - (intOf i).toNat)
  case atStart => exact ⟨0, Nat.zero_le _, rfl, Lib.hid (by omega), Lib.hid (Below.refl _ _)⟩
  case round =>
    obtain ⟨k, hk, rfl, HG, HQ⟩ := hrel
    have hzq := HQ.out.size
    by_cases hlt : k < xs.length
    · obtain ⟨b, off, hoa, hbb, hrow⟩ := H3.out (by omega)
      subst hoa
      have hsub := hrow k hlt
      rw [← obj_below HQ.out (by omega)] at hsub
      have hbr : b < wr.heap.size := by omega
      have hmulk : off + k * 72 + 72 ≤ off + k * 72 + 72 := Nat.le_refl _
      have NX : Hid (restB fr xs[k] = false → ∀ j (h1 : j < xs.length), j < k + 1 → restB fr xs[j] = false) := Lib.hid (fun h j h1 hlt' => by
          by_cases e : j = k
          · subst e; exact h
          · exact HG.out j h1 (by omega))
      have NO := Lib.hid (HN.out k hlt)
      have BD := Lib.hid (HBD.out xs[k])
      generalize xs[k] = x at *
      obtain ⟨⟨p0, p1, _, _⟩, _, _⟩ := fact_parts hsub
      clear hrow hsub
      by_cases hm : fr ≤ x.move
      · have d0 : decide (fr ≤ x.move) = true := by simpa using hm
        clear hm
        cases e11 : x.kind == 11
        · cases e10 : x.kind == 10
          · have hc := Lib.hid (NX.out (by rw [BD.out, d0, e11, e10]; rfl))
            go_wp2
            go_roundw
            case rel => exact ⟨k + 1, by omega, by go_num, hc, HQ⟩
            case measure => simp [intOf]; omega
          · have hc := Lib.hid (NO.out (by rw [BD.out, d0, e11, e10]; rfl))
            go_wp2
            go_ret
            exact ⟨ret_bool hc.out, HQ.out⟩
        · have hc := Lib.hid (NO.out (by rw [BD.out, d0, e11]; rfl))
          go_wp2
          go_ret
          exact ⟨ret_bool hc.out, HQ.out⟩
      · have d0 : decide (fr ≤ x.move) = false := by simpa using hm
        have hc := Lib.hid (NX.out (by rw [BD.out, d0]; rfl))
        clear hm
        go_wp2
        go_roundw
        case rel => exact ⟨k + 1, by omega, by go_num, hc, HQ⟩
        case measure => simp [intOf]; omega
    · have HR := Lib.hid (HY.out (fun j hj _ => HG.out j hj (by omega)))
      go_wp2
      go_ret
      exact ⟨ret_bool HR.out, HQ.out⟩
end Go.Proofs.Ytmenfbfekfljbaa
