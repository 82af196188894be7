import Derived.Test.YtmgpfmgmpmkkaaaGreatFrJ
import Derived.Test.YtmgpfmgmpmkkaaaGreatAnsw
namespace Go.Proofs.YtmgpfmgmpmkkaaaGreat

theorem may_small {l : List Vd} {m : FrM} (h : mayB l m = true) : FrSm m := by
  unfold mayB saidB at h
  simp only [Bool.and_eq_true, decide_eq_true_eq, List.all_eq_true] at h
  obtain ⟨⟨⟨⟨⟨hc, hop⟩, hr⟩, ht⟩, hsd⟩, -⟩ := h
  have h32 := (chk_32 hc).2.1
  have h1 := places_len hop
  have h2 := places_len hsd.2
  rw [List.length_map] at h2
  refine ⟨by omega, by omega, by omega, fun s hs => ?_⟩
  obtain ⟨⟨-, hrs⟩, hm⟩ := hsd.1 s hs
  have := nodup_sub (ris_nodup hrs) (l' := m.tips) hm
  omega
theorem ans_step {l : List Vd} {base : List Int} {av : List AnsM} {i : Nat} {m : FrM} (hc : chk l = 0) (hb : placesB l.length base = true) (h : J l.length base av i m) (k : Nat) (h0 : m.op ≠ []) :
    ∃ m', ansR l m k av = (m', true) ∧ J l.length base av (i + 1) m' := by
  have hm := h.may hb l hc rfl
  have h32 := (chk_32 hc)
  obtain ⟨node, hn, e⟩ : ∃ node ∈ m.op, ansR l m k av = ansN l m node av := by
    unfold ansR
    rw [dif_neg h0]
    exact ⟨_, List.getElem_mem _, rfl⟩
  have hst := h.step (by omega) (places_nodup hb) hn
  have hph : m.phase = 1 ∨ m.phase = 2 := by cases h <;> first | exact .inl rfl | exact .inr rfl | exact absurd rfl h0
  have ha : ∀ ph : Int, (ph = 0 ∨ m.phase = ph) → asksE l m ph node = 0 := by
    intro ph hp
    unfold asksE
    rw [if_pos hm, if_neg]
    rintro (⟨h1, h2⟩ | h1)
    · rcases hp with hp | hp
      · exact h1 hp
      · exact h2 hp
    · exact h1 hn
  have key : ansOne l m node (ansAt av node) = (stepM l.length m node (ansAt av node), 0) := by
    unfold ansOne stepM
    cases hf : (ansAt av node).fails with
    | true =>
      simp only [if_true]
      unfold failR
      rw [ha 0 (.inl rfl), if_neg (by decide)]
    | false =>
      simp only [Bool.false_eq_true, if_false]
      by_cases h1 : m.phase = 1
      · rw [if_pos h1, if_pos h1]
        unfold tipR
        rw [ha 1 (.inr h1), if_neg (by decide), if_neg]
        rintro ⟨-, h2⟩
        have := h.room hb h32.2.1 h1
        omega
      · rw [if_neg h1, if_neg h1]
        unfold accR
        rw [ha 2 (.inr (by rcases hph with h | h; exact absurd h h1; exact h)), if_neg (by decide)]
  refine ⟨_, ?_, hst⟩
  rw [e]
  unfold ansN
  rw [key]
  rfl
theorem ans_empty {l : List Vd} {m : FrM} (k : Nat) (av : List AnsM) (h : m.op = []) : ansR l m k av = (m, false) := by unfold ansR; rw [dif_pos h]
theorem new_ok {l : List Vd} {zs : List Int} (h : (newR l zs).2 = 0) : chk l = 0 ∧ placesB l.length (openOf zs) = true ∧ openOf zs ≠ [] ∧ (newR l zs).1 = ⟨1, openOf zs, [], []⟩ := by
  unfold newR at *
  by_cases hc : chk l = 0
  · rw [if_neg (by simp [hc])] at *
    by_cases ho : openOf zs = [] ∨ placesB l.length (openOf zs) = false
    · rw [if_pos ho] at h; cases h
    · rw [if_neg ho] at *
      simp only [not_or] at ho
      exact ⟨hc, by simpa using ho.2, ho.1, rfl⟩
  · rw [if_pos hc] at h; cases h
end Go.Proofs.YtmgpfmgmpmkkaaaGreat
