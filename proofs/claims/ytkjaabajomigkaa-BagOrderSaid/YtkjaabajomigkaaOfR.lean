import Derived.Test.YtkjaabajomigkaaPut
import Derived.Test.YtkjaabajomigkaaOf
namespace Go.Proofs.Ytkjaabajomigkaa
open Go.RowKit

theorem sumN_mem {l : List Vt} (hp : Pos l) {x : Vt} (hx : x ∈ l) : x.n ≤ sumN l := by
  induction l with
  | nil => cases hx
  | cons y l ih =>
    have h1 := hp y (by simp)
    have h2 := sumN_pos (fun z hz => hp z (by simp [hz]) : Pos l)
    rcases List.mem_cons.1 hx with rfl | hx
    · simp only [sumN]; omega
    · have := ih (fun z hz => hp z (by simp [hz])) hx
      simp only [sumN]; omega
set_option maxRecDepth 100000 in
set_option maxHeartbeats 2000000 in
/-- flurryref07.Of, of few enough names -/
theorem ofR_any (w : World) (v : Value) (l : List ID) (h : SlIn w v 32 idL l) (hlen : l.length ≤ 1048575) :
    Calls Try.prog 18 #[v] w (RetOwn w 33 33 vtL (ofV [] l)) := by
  obtain ⟨oa, cap, rfl, g1, g2, g3⟩ := h
  unfold maxLen at g2
  have H3 := Lib.hid g3
  have d1 : decide ((l.length : Int) ≤ 1048576) = true := by simp; omega
  clear g3
  go_enter Try.func18, Try.ntmps18
  go_wp2
  go_loopw [3, 4] (fun v3 v4 wr => ∃ (k : Nat), k ≤ l.length ∧ v4 = .int .i64 k ∧ Hid (OwnS wr w.heap.size 33 33 vtL v3 (ofV [] (l.take k))) ∧ Hid (Below w.heap.size w wr)) (fun _ i _ => l.length - (intOf i).toNat)
  case atStart => exact ⟨0, Nat.zero_le _, rfl, Lib.hid (by simpa [ofV] using OwnS.nil w w.heap.size 33 33 vtL), Lib.hid (Below.refl _ _)⟩
  case round =>
    obtain ⟨k, hk, rfl, HO, HB⟩ := hrel
    by_cases hlt : k < l.length
    · obtain ⟨b, off, hoa, hbb, hrow⟩ := H3.out (by omega)
      subst hoa
      have hs1 := hrow k hlt
      rw [← obj_below HB.out hbb] at hs1
      have hmulk : off + k * 32 + 32 ≤ off + k * 32 + 32 := Nat.le_refl _
      have hz := HB.out.size
      have hkk : Hid (ofV [] (l.take (k + 1)) = insV l[k] 1 (ofV [] (l.take k))) := Lib.hid (by rw [List.take_succ_eq_append_getElem hlt, ofV_snoc, putV, if_neg (by decide)])
      have hok := ofV_ok (l.take k)
      have hl2 := len_sum hok.2.1
      have hlt2 : ((l.take k).length : Int) ≤ 1048574 := by simp; omega
      have HP := Lib.hid (put_some wr u3 (ofV [] (l.take k)) l[k] 1 (HO.out.slIn vtL_length) (by omega) (by decide) (by decide) (by decide) (fun x hx => by
        have h1 := hok.2.1 x hx
        have h2 := sumN_mem hok.2.1 hx
        omega))
      clear hok hl2 hlt2 hrow
      generalize l[k] = x at *
      go_wp2_with fail
      refine HP.out.mono ?_
      rintro e w2 ⟨v2, rfl, o2, b2⟩
      have HO2 := Lib.hid (o2.rebase hz)
      have HB2 := Lib.hid (HB.out.trans (b2.mono hz))
      clear o2 b2
      go_wp2
      go_roundw
      case rel => exact ⟨k + 1, by omega, by go_num, by rw [hkk.out]; exact HO2, HB2⟩
      case measure => simp [intOf]; omega
    · have HG := HO.out
      rw [List.take_of_length_le (by omega)] at HG
      have HF := Lib.hid HG
      clear HG
      go_wp2
      go_ret
      exact ⟨_, rfl, HF.out, HB.out⟩
end Go.Proofs.Ytkjaabajomigkaa
