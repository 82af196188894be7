import Derived.Test.YtmenfbfekfljbaaSlices
import Derived.Shelf.Abstract
namespace Go.Proofs.Ytmenfbfekfljbaa
open Go.RowKit Go.Shelf

/-- what is asked of a predicate that is handed over: at every x, in every world in which all that was there lies as it did -/
def PredOf {α : Type} (g : Nat) (lb : Array Value) (enc : α → List Value) (p : α → Bool) (w : World) : Prop :=
  ∀ (W : World) (x : α), Below w.heap.size w W → Calls Try.prog g (#[.agg (enc x).toArray] ++ lb) W fun e w' => e = .returned (.bool (p x)) ∧ Below W.heap.size W w'
def idxF {α : Type} (p : α → Bool) (xs : List α) : Int := if xs.any p then (xs.findIdx p : Nat) else -1
theorem idxF_nonneg {α : Type} (p : α → Bool) (xs : List α) : decide (0 ≤ idxF p xs) = xs.any p := by
  unfold idxF; split <;> simp_all
theorem idxF_hit {α : Type} {xs : List α} {p : α → Bool} {k : Nat} (h : k < xs.length) (hn : ∀ j (hj : j < xs.length), j < k → p xs[j] = false) (e : p xs[k] = true) : idxF p xs = k := by
  unfold idxF
  rw [if_pos (by rw [List.any_eq_true]; exact ⟨xs[k], by simp, e⟩), List.findIdx_eq h |>.2 ⟨e, fun j hj => by simpa using hn j (by omega) hj⟩]
theorem idxF_miss {α : Type} {xs : List α} {p : α → Bool} (hn : ∀ j (hj : j < xs.length), j < xs.length → p xs[j] = false) : idxF p xs = -1 := by
  unfold idxF
  rw [if_neg]
  intro h
  rw [List.any_eq_true] at h
  obtain ⟨x, hx, e⟩ := h
  obtain ⟨j, hj, rfl⟩ := List.getElem_of_mem hx
  rw [hn j hj hj] at e
  cases e
set_option maxRecDepth 100000 in
set_option maxHeartbeats 1000000 in
theorem indexFunc_id (w : World) (v : Value) (xs : List ID) (g : Nat) (lb : Array Value) (p : ID → Bool) (eg : ∀ args w, (callFunc g args).run Try.prog w = .ok (.enter g args) w)
    (hp : PredOf g lb idL p w) (h : SlIn w v 32 idL xs) :
    Calls Try.prog 64 #[v, .func (.func g) #[] lb] w fun e w' => e = .returned (.int .i64 (idxF p xs)) ∧ Below w.heap.size w w' := by
  obtain ⟨oa, cap, rfl, h1, h2, h3⟩ := h
  unfold maxLen at h2
  have H3 := Lib.hid h3
  have HP := Lib.hid hp
  clear h3 hp
  go_enter Try.func64, Try.ntmps64
  go_wp2
  go_loopw [5, 8] (fun _ v8 wr => ∃ k : Nat, k ≤ xs.length ∧ v8 = .int .i64 k ∧ Hid (∀ j (h1 : j < xs.length), j < k → p xs[j] = false) ∧ Below w.heap.size w wr) (fun _ i _ => xs.length - (intOf i).toNat)
  case atStart => exact ⟨0, Nat.zero_le _, rfl, Lib.hid (by omega), Below.refl _ w⟩
  case round =>
    obtain ⟨k, hk, rfl, HK, hb⟩ := hrel
    by_cases hlt : k < xs.length
    · obtain ⟨b, off, hoa, hbb, hrow⟩ := H3.out (by omega)
      subst hoa
      have hs1 := hrow k hlt
      rw [← obj_below hb hbb] at hs1
      have hbl : b < wr.heap.size := Nat.lt_of_lt_of_le hbb hb.size
      have NX : Hid (p xs[k] = false → ∀ j (h1 : j < xs.length), j < k + 1 → p xs[j] = false) := Lib.hid (fun h j h1 hlt' => by
          by_cases e : j = k
          · subst e; exact h
          · exact HK.out j h1 (by omega))
      have NO : Hid (p xs[k] = true → idxF p xs = k) := Lib.hid (fun h => idxF_hit hlt HK.out h)
      have HC := HP.out wr xs[k] hb
      generalize xs[k] = x at *
      generalize p x = r at *
      clear hrow
      have HC' := Lib.hid HC
      clear HC
      cases r
      · go_wp2_with (go_at_fn g; refine HC'.out.mono ?_; rintro e w' ⟨rfl, hb'⟩)
        go_roundw
        case rel => exact ⟨k + 1, by omega, by go_num, Lib.hid (NX.out (by first | rfl | trivial)), hb.trans (hb'.mono hb.size)⟩
        case measure => simp [intOf]; omega
      · go_wp2_with (go_at_fn g; refine HC'.out.mono ?_; rintro e w' ⟨rfl, hb'⟩)
        go_ret
        exact ⟨ret_int (NO.out (by first | rfl | trivial)).symm, hb.trans (hb'.mono hb.size)⟩
    · have hk' : k = xs.length := by omega
      subst hk'
      go_wp2
      go_ret
      exact ⟨ret_int (idxF_miss HK.out).symm, hb⟩
set_option maxRecDepth 100000 in
theorem containsFunc_id (w : World) (v : Value) (xs : List ID) (g : Nat) (lb : Array Value) (p : ID → Bool) (eg : ∀ args w, (callFunc g args).run Try.prog w = .ok (.enter g args) w)
    (hp : PredOf g lb idL p w) (h : SlIn w v 32 idL xs) :
    Calls Try.prog 44 #[v, .func (.func g) #[] lb] w fun e w' => e = .returned (.bool (xs.any p)) ∧ Below w.heap.size w w' := by
  have HI := Lib.hid (indexFunc_id w v xs g lb p eg hp h)
  have HE := Lib.hid (idxF_nonneg p xs)
  generalize idxF p xs = r at *
  clear h hp
  go_enter Try.func44, Try.ntmps44
  go_wp2_with fail
  refine HI.out.mono ?_
  rintro e w1 ⟨rfl, hb⟩
  go_wp2
  go_ret
  exact ⟨ret_bool HE.out, hb⟩
end Go.Proofs.Ytmenfbfekfljbaa
