import Derived.Test.YtggpmepiggnnnaaOf
import Derived.Shelf.Abstract
namespace Go.Proofs.Ytggpmepiggnnnaa
open Go.RowKit Go.Shelf

/-- what is asked of a predicate that is handed over: at every x, in every world in which all that was there lies as it did -/
def PredOf {α : Type} (g : Nat) (lb : Array Value) (enc : α → List Value) (p : α → Bool) (w : World) : Prop :=
  ∀ (W : World) (x : α), Below w.heap.size w W → Calls Try.prog g (#[.agg (enc x).toArray] ++ lb) W fun e w' => e = .returned (.bool (p x)) ∧ Below W.heap.size W w'
def idxF {α : Type} (p : α → Bool) (xs : List α) : Int := if xs.any p then (xs.findIdx p : Nat) else -1
theorem idxF_nonneg {α : Type} (p : α → Bool) (xs : List α) : decide (0 ≤ idxF p xs) = xs.any p := by
  unfold idxF; split <;> simp_all
theorem idxF_hit {α : Type} {xs : List α} {p : α → Bool} {k : Nat} (h : k < xs.length) (hn : ∀ j (hj : j < xs.length), j < k → p xs[j] = false) (e : p xs[k] = true) : idxF p xs = k := by
  unfold idxF
  rw [if_pos (by rw [List.any_eq_true]; exact ⟨xs[k], by simp, e⟩), List.findIdx_eq h |>.2 ⟨e, fun j hj => by simpa using hn j (by omega) hj⟩]
theorem idxF_miss {α : Type} {xs : List α} {p : α → Bool} (hn : ∀ j (hj : j < xs.length), j < xs.length → p xs[j] = false) : idxF p xs = -1 := by
  unfold idxF
  rw [if_neg]
  intro h
  rw [List.any_eq_true] at h
  obtain ⟨x, hx, e⟩ := h
  obtain ⟨j, hj, rfl⟩ := List.getElem_of_mem hx
  rw [hn j hj hj] at e
  cases e
set_option maxRecDepth 100000 in
set_option maxHeartbeats 1000000 in
theorem indexFunc_al (w : World) (v : Value) (xs : List Al) (g : Nat) (lb : Array Value) (p : Al → Bool) (eg : ∀ args w, (callFunc g args).run Try.prog w = .ok (.enter g args) w)
    (hp : PredOf g lb alL p w) (h : SlIn w v 2 alL xs) :
    Calls Try.prog 35 #[v, .func (.func g) #[] lb] w fun e w' => e = .returned (.int .i64 (idxF p xs)) ∧ Below w.heap.size w w' := by
  obtain ⟨oa, cap, rfl, h1, h2, h3⟩ := h
  unfold maxLen at h2
  have H3 := Lib.hid h3
  have HP := Lib.hid hp
  clear h3 hp
  go_enter Try.func35, Try.ntmps35
  go_wp2
  go_loopw [5, 8] (fun _ v8 wr => ∃ k : Nat, k ≤ xs.length ∧ v8 = .int .i64 k ∧ Hid (∀ j (h1 : j < xs.length), j < k → p xs[j] = false) ∧ Below w.heap.size w wr) (fun _ i _ => xs.length - (intOf i).toNat)
  case atStart => exact ⟨0, Nat.zero_le _, rfl, Lib.hid (by omega), Below.refl _ w⟩
  case round =>
    obtain ⟨k, hk, rfl, HK, hb⟩ := hrel
    by_cases hlt : k < xs.length
    · obtain ⟨b, off, hoa, hbb, hrow⟩ := H3.out (by omega)
      subst hoa
      have hs1 := hrow k hlt
      rw [← obj_below hb hbb] at hs1
      have hbl : b < wr.heap.size := Nat.lt_of_lt_of_le hbb hb.size
      have NX : Hid (p xs[k] = false → ∀ j (h1 : j < xs.length), j < k + 1 → p xs[j] = false) := Lib.hid (fun h j h1 hlt' => by
          by_cases e : j = k
          · subst e; exact h
          · exact HK.out j h1 (by omega))
      have NO : Hid (p xs[k] = true → idxF p xs = k) := Lib.hid (fun h => idxF_hit hlt HK.out h)
      have HC := HP.out wr xs[k] hb
      generalize xs[k] = x at *
      generalize hpr : p x = r at *
      obtain ⟨x1, x2⟩ := x
      clear hpr
      clear hrow
      have HC' := Lib.hid HC
      clear HC
      cases r
      · go_wp2_with (go_at_fn g; refine HC'.out.mono ?_; rintro e w' ⟨rfl, hb'⟩)
        go_roundw
        case rel => exact ⟨k + 1, by omega, by go_num, Lib.hid (NX.out (by first | rfl | trivial)), hb.trans (hb'.mono hb.size)⟩
        case measure => simp [intOf]; omega
      · go_wp2_with (go_at_fn g; refine HC'.out.mono ?_; rintro e w' ⟨rfl, hb'⟩)
        go_ret
        exact ⟨ret_int (NO.out (by first | rfl | trivial)).symm, hb.trans (hb'.mono hb.size)⟩
    · have hk' : k = xs.length := by omega
      subst hk'
      go_wp2
      go_ret
      exact ⟨ret_int (idxF_miss HK.out).symm, hb⟩
set_option maxRecDepth 100000 in
theorem containsFunc_al (w : World) (v : Value) (xs : List Al) (g : Nat) (lb : Array Value) (p : Al → Bool) (eg : ∀ args w, (callFunc g args).run Try.prog w = .ok (.enter g args) w)
    (hp : PredOf g lb alL p w) (h : SlIn w v 2 alL xs) :
    Calls Try.prog 13 #[v, .func (.func g) #[] lb] w fun e w' => e = .returned (.bool (xs.any p)) ∧ Below w.heap.size w w' := by
  have HI := Lib.hid (indexFunc_al w v xs g lb p eg hp h)
  have HE := Lib.hid (idxF_nonneg p xs)
  generalize idxF p xs = r at *
  clear h hp
  go_enter Try.func13, Try.ntmps13
  go_wp2_with fail
  refine HI.out.mono ?_
  rintro e w1 ⟨rfl, hb⟩
  go_wp2
  go_ret
  exact ⟨ret_bool HE.out, hb⟩

def idxOf (xs : List Al) (a : Al) : Int := if a ∈ xs then (xs.findIdx (· = a) : Nat) else -1
theorem idxOf_nonneg (xs : List Al) (a : Al) : decide (0 ≤ idxOf xs a) = decide (a ∈ xs) := by
  unfold idxOf; split <;> simp_all
theorem idxOf_hit {xs : List Al} {a : Al} {k : Nat} (h : k < xs.length) (hn : ∀ j (hj : j < xs.length), j < k → xs[j] ≠ a) (e : xs[k] = a) : idxOf xs a = k := by
  unfold idxOf
  rw [if_pos (by rw [← e]; simp), List.findIdx_eq h |>.2 ⟨by simpa using e, fun j hj => by simpa using hn j (by omega) hj⟩]
theorem idxOf_miss {xs : List Al} {a : Al} (hn : ∀ j (hj : j < xs.length), j < xs.length → xs[j] ≠ a) : idxOf xs a = -1 := by
  unfold idxOf
  rw [if_neg]
  intro h
  obtain ⟨j, hj, e⟩ := List.getElem_of_mem h
  exact hn j hj hj e
set_option maxRecDepth 100000 in
set_option maxHeartbeats 1000000 in
theorem index_any (w : World) (v : Value) (xs : List Al) (a : Al) (h : SlIn w v 2 alL xs) :
    Calls Try.prog 37 #[v, alV a] w fun e w' => e = .returned (.int .i64 (idxOf xs a)) ∧ Below w.heap.size w w' := by
  obtain ⟨oa, cap, rfl, h1, h2, h3⟩ := h
  unfold maxLen at h2
  have H3 := Lib.hid h3
  obtain ⟨a1, a2⟩ := a
  clear h3
  go_enter Try.func37, Try.ntmps37
  go_wp2
  go_loopw [5, 8] (fun _ v8 wr => ∃ k : Nat, k ≤ xs.length ∧ v8 = .int .i64 k ∧ Hid (∀ j (h1 : j < xs.length), j < k → xs[j] ≠ (a1, a2)) ∧ Below w.heap.size w wr ∧ Hid (obj wr w.heap.size = some (.cells #[.int .i64 a1, .int .i64 a2] 32 (0, 0)))) (fun _ i _ => xs.length - (intOf i).toNat)
  case atStart => exact ⟨0, Nat.zero_le _, rfl, Lib.hid (by omega), (Below.refl _ w).alloc (Nat.le_refl _) _, Lib.hid (obj_alloc_at _ _ _ rfl)⟩
  case round =>
    obtain ⟨k, hk, rfl, HK, hb, O1⟩ := hrel
    have o1 := O1.out
    have hz1 := lt_of_obj o1
    by_cases hlt : k < xs.length
    · obtain ⟨b, off, hoa, hbb, hrow⟩ := H3.out (by omega)
      subst hoa
      have hs1 := hrow k hlt
      rw [← obj_below hb hbb] at hs1
      have hbl : b < wr.heap.size := Nat.lt_of_lt_of_le hbb hb.size
      have NX : Hid (xs[k] ≠ (a1, a2) → ∀ j (h1 : j < xs.length), j < k + 1 → xs[j] ≠ (a1, a2)) := Lib.hid (fun h j h1 hlt' => by
          by_cases e : j = k
          · subst e; exact h
          · exact HK.out j h1 (by omega))
      have NO : Hid (xs[k] = (a1, a2) → idxOf xs (a1, a2) = k) := Lib.hid (fun h => idxOf_hit hlt HK.out h)
      generalize xs[k] = x at *
      obtain ⟨x1, x2⟩ := x
      simp only [alL] at hs1
      clear hrow
      by_cases hxy : a1 = x1 ∧ a2 = x2
      · obtain ⟨rfl, rfl⟩ := hxy
        have HN := Lib.hid (NO.out rfl)
        have e1 : (a1 == a1) = true := by simp
        have e2 : (a2 == a2) = true := by simp
        go_wp2
        go_quiet (fail)
        go_wp2
        go_ret
        exact ⟨ret_int HN.out.symm, below_drewN hb _⟩
      · have HN := Lib.hid (NX.out fun e => hxy (by simpa using e.symm))
        by_cases e1 : a1 = x1
        · subst e1
          have e2 : (a2 == x2) = false := by simpa using fun e => hxy ⟨rfl, e⟩
          clear hxy
          go_wp2
          go_quiet (fail)
          go_wp2
          go_roundw
          case rel => exact ⟨k + 1, by omega, by go_num, HN, below_drewN hb _, Lib.hid o1⟩
          case measure => simp [intOf]; omega
        · have e1' : (a1 == x1) = false := by simpa using e1
          clear hxy e1
          go_wp2
          go_quiet (fail)
          go_wp2
          go_roundw
          case rel => exact ⟨k + 1, by omega, by go_num, HN, below_drewN hb _, Lib.hid o1⟩
          case measure => simp [intOf]; omega
    · have hk' : k = xs.length := by omega
      subst hk'
      go_wp2
      go_ret
      exact ⟨ret_int (idxOf_miss HK.out).symm, hb⟩
set_option maxRecDepth 100000 in
theorem contains_any (w : World) (v : Value) (xs : List Al) (a : Al) (h : SlIn w v 2 alL xs) :
    Calls Try.prog 18 #[v, alV a] w fun e w' => e = .returned (.bool (decide (a ∈ xs))) ∧ Below w.heap.size w w' := by
  have HI := Lib.hid (index_any (w.alloc (.cells #[.int .i64 a.1, .int .i64 a.2] 32)) v xs a (h.below ((Below.refl _ w).alloc (Nat.le_refl _) _)))
  have HE := Lib.hid (idxOf_nonneg xs a)
  generalize idxOf xs a = r at *
  clear h
  go_enter Try.func18, Try.ntmps18
  go_wp2_with fail
  refine HI.out.mono ?_
  rintro e w1 ⟨rfl, hb⟩
  go_wp2
  go_ret
  exact ⟨ret_bool HE.out, ((Below.refl _ w).alloc (Nat.le_refl _) _).trans (hb.mono (by simp))⟩

end Go.Proofs.Ytggpmepiggnnnaa
