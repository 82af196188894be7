import Derived.Test.YtggpmepiggnnnaaDue
namespace Go.Proofs.Ytggpmepiggnnnaa
open Go.RowKit

def ordL (xs : List Al) : List Al := xs.foldl (fun W a => insL a W) []
theorem ordL_snoc (xs : List Al) (a : Al) : ordL (xs ++ [a]) = insL a (ordL xs) := by simp [ordL]
theorem ordL_perm (xs : List Al) : (ordL xs).Perm xs := by
  have key : ∀ (xs W : List Al), (xs.foldl (fun W a => insL a W) W).Perm (xs ++ W) := by
    intro xs
    induction xs with
    | nil => intro W; exact List.Perm.refl _
    | cons a r ih =>
      intro W
      refine (ih (insL a W)).trans ?_
      refine ((insL_perm a W).append_left r).trans ?_
      exact List.perm_middle
  simpa [ordL] using key xs []
theorem take_snoc' {xs : List Al} {k : Nat} (h : k < xs.length) : xs.take (k + 1) = xs.take k ++ [xs[k]] := by
  rw [List.take_succ_eq_append_getElem h]
structure OfOK (xs : List Al) : Prop where
  may : ∀ a ∈ xs, mayB a.1 = true
  keys : (keysL xs).Nodup
  len : xs.length ≤ 4096
theorem OfOK.push {xs : List Al} (h : OfOK xs) {k : Nat} (hk : k < xs.length) : pushE (ordL (xs.take k)) xs[k].1 xs[k].2 = 0 := by
  rw [pushE_perm (ordL_perm _)]
  unfold pushE
  rw [if_neg (by rw [h.may _ (List.getElem_mem hk)]; simp), if_neg, if_neg (by simp; have := h.len; omega)]
  intro hh
  unfold hasK at hh
  rw [List.any_eq_true] at hh
  obtain ⟨x, hx, e⟩ := hh
  obtain ⟨j, hj, rfl⟩ := List.mem_iff_getElem.1 hx
  simp only [List.length_take] at hj
  rw [List.getElem_take] at e
  have hn := h.keys
  unfold keysL List.Nodup at hn
  rw [List.pairwise_iff_getElem] at hn
  have := hn j k (by simp; omega) (by simpa using hk) (by omega)
  simp at this
  simp at e
  exact this e
set_option maxRecDepth 100000 in
set_option maxHeartbeats 1000000 in
theorem of_hp (w : World) (v : Value) (xs : List Al) (hv : SlIn w v 2 alL xs) (hok : OfOK xs) :
    Calls Try.prog 16 #[v] w fun e w' => (∃ hb F, e = .returned (.tuple #[.pointer (some ⟨hb, 0, none⟩), .int .i64 0]) ∧ Hp w' F hb (ordL xs) ∧ ∀ n, F n → w.heap.size ≤ n) ∧ Below w.heap.size w w' := by
  obtain ⟨oa, cap, rfl, h1, h2, h3⟩ := hv
  unfold maxLen at h2
  have H3 := Lib.hid h3
  have HOK := Lib.hid hok
  have HN := Lib.hid (new_hp w)
  clear h3 hok
  go_enter Try.func16, Try.ntmps16
  go_wp2_with fail
  refine HN.out.mono ?_
  rintro e w1 ⟨rfl, hh, hb⟩
  have HB0 : Hid (∃ F : Nat → Prop, Hp w1 F (w.heap.size + 1) (ordL (xs.take 0)) ∧ ∀ n, F n → w.heap.size ≤ n) := Lib.hid ⟨_, hh, fun n hn => by rcases hn with rfl | rfl <;> omega⟩
  have HBL := Lib.hid hb
  clear hh hb
  go_wp2
  go_loopw [11] (fun v11 wr => ∃ k : Nat, k ≤ xs.length ∧ v11 = .int .i64 k ∧ Hid (∃ F : Nat → Prop, Hp wr F (w.heap.size + 1) (ordL (xs.take k)) ∧ ∀ n, F n → w.heap.size ≤ n) ∧ Hid (Below w.heap.size w wr)) (fun i _ => xs.length - (intOf i).toNat)
  case atStart => exact ⟨0, Nat.zero_le _, rfl, HB0, HBL⟩
  case round =>
    obtain ⟨k, hk, rfl, HK, HB⟩ := hrel
    by_cases hlt : k < xs.length
    · obtain ⟨b, off, hoa, hbb, hrow⟩ := H3.out (by omega)
      subst hoa
      have hs1 := hrow k hlt
      rw [← obj_below HB.out hbb] at hs1
      have hbl : b < wr.heap.size := Nat.lt_of_lt_of_le hbb HB.out.size
      have HPU := Lib.hid (HOK.out.push hlt)
      have HTS := Lib.hid (take_snoc' hlt)
      obtain ⟨F, hh, hF⟩ := HK.out
      have b4 : Below wr.heap.size wr (wr.alloc (.cells #[.int .i64 (xs[k].1), .int .i64 (xs[k].2)] 32)) := (Below.refl _ wr).alloc (Nat.le_refl _) _
      have HC := Lib.hid (push_hp _ F (w.heap.size + 1) _ xs[k].1 xs[k].2 (hh.below b4))
      have HF := Lib.hid hF
      generalize xs[k] = x at *
      obtain ⟨x1, x2⟩ := x
      clear hrow hh hF
      rw [HPU.out] at HC
      go_wp2_with fail
      refine HC.out.mono ?_
      rintro e w5 ⟨rfl, ⟨F5, h5, g5⟩, k5⟩
      have HB5 : Hid (Below w.heap.size w w5) := Lib.hid ((HB.out.trans (b4.mono HB.out.size)).trans (k5.below HF.out (by have := HB.out.size; simp; omega)))
      have HK5 : Hid (∃ F : Nat → Prop, Hp w5 F (w.heap.size + 1) (ordL (xs.take (k + 1))) ∧ ∀ n, F n → w.heap.size ≤ n) := Lib.hid ⟨F5, by
        rw [HTS.out, ordL_snoc]
        unfold pushW at h5
        rw [if_pos HPU.out] at h5
        exact h5, fun n hn => by
          rcases g5 n hn with h | h
          · exact HF.out n h
          · have := HB.out.size; simp at h; omega⟩
      clear h5 g5 k5
      go_wp2
      go_roundw
      case rel => exact ⟨k + 1, by omega, by go_num, HK5, HB5⟩
      case measure => simp [intOf]; omega
    · have hk' : k = xs.length := by omega
      subst hk'
      have HK' := Lib.hid HK.out
      rw [List.take_length] at HK'
      go_wp2
      go_ret2
      obtain ⟨F, hh, hF⟩ := HK'.out
      exact ⟨⟨_, F, rfl, hh, hF⟩, HB.out⟩
end Go.Proofs.Ytggpmepiggnnnaa
