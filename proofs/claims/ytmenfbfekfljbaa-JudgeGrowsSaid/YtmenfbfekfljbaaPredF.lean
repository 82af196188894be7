import Derived.Test.YtmenfbfekfljbaaPred
namespace Go.Proofs.Ytmenfbfekfljbaa
open Go.RowKit Go.Shelf

set_option maxRecDepth 100000 in
set_option maxHeartbeats 1000000 in
theorem indexFunc_fact (w : World) (v : Value) (xs : List FactD) (g : Nat) (lb : Array Value) (p : FactD → Bool) (eg : ∀ args w, (callFunc g args).run Try.prog w = .ok (.enter g args) w)
    (hp : PredOf g lb factL p w) (h : SlIn w v 72 factL xs) :
    Calls Try.prog 45 #[v, .func (.func g) #[] lb] w fun e w' => e = .returned (.int .i64 (idxF p xs)) ∧ Below w.heap.size w w' := by
  obtain ⟨oa, cap, rfl, h1, h2, h3⟩ := h
  unfold maxLen at h2
  have H3 := Lib.hid h3
  have HP := Lib.hid hp
  clear h3 hp
  go_enter Try.func45, Try.ntmps45
  go_wp2
  go_loopw [5, 8] (fun _ v8 wr => ∃ k : Nat, k ≤ xs.length ∧ v8 = .int .i64 k ∧ Hid (∀ j (h1 : j < xs.length), j < k → p xs[j] = false) ∧ Below w.heap.size w wr) (fun _ i _ => xs.length - (intOf i).toNat)
  case atStart => exact ⟨0, Nat.zero_le _, rfl, Lib.hid (by omega), Below.refl _ w⟩
  case round =>
    obtain ⟨k, hk, rfl, HK, hb⟩ := hrel
    by_cases hlt : k < xs.length
    · obtain ⟨b, off, hoa, hbb, hrow⟩ := H3.out (by omega)
      subst hoa
      have hs1 := hrow k hlt
      rw [← obj_below hb hbb] at hs1
      have hbl : b < wr.heap.size := Nat.lt_of_lt_of_le hbb hb.size
      have NX : Hid (p xs[k] = false → ∀ j (h1 : j < xs.length), j < k + 1 → p xs[j] = false) := Lib.hid (fun h j h1 hlt' => by
          by_cases e : j = k
          · subst e; exact h
          · exact HK.out j h1 (by omega))
      have NO : Hid (p xs[k] = true → idxF p xs = k) := Lib.hid (fun h => idxF_hit hlt HK.out h)
      have HC := HP.out wr xs[k] hb
      generalize xs[k] = x at *
      generalize p x = r at *
      clear hrow
      have HC' := Lib.hid HC
      clear HC
      cases r
      · go_wp2_with (go_at_fn g; refine HC'.out.mono ?_; rintro e w' ⟨rfl, hb'⟩)
        go_roundw
        case rel => exact ⟨k + 1, by omega, by go_num, Lib.hid (NX.out (by first | rfl | trivial)), hb.trans (hb'.mono hb.size)⟩
        case measure => simp [intOf]; omega
      · go_wp2_with (go_at_fn g; refine HC'.out.mono ?_; rintro e w' ⟨rfl, hb'⟩)
        go_ret
        exact ⟨ret_int (NO.out (by first | rfl | trivial)).symm, hb.trans (hb'.mono hb.size)⟩
    · have hk' : k = xs.length := by omega
      subst hk'
      go_wp2
      go_ret
      exact ⟨ret_int (idxF_miss HK.out).symm, hb⟩
set_option maxRecDepth 100000 in
theorem containsFunc_fact (w : World) (v : Value) (xs : List FactD) (g : Nat) (lb : Array Value) (p : FactD → Bool) (eg : ∀ args w, (callFunc g args).run Try.prog w = .ok (.enter g args) w)
    (hp : PredOf g lb factL p w) (h : SlIn w v 72 factL xs) :
    Calls Try.prog 20 #[v, .func (.func g) #[] lb] w fun e w' => e = .returned (.bool (xs.any p)) ∧ Below w.heap.size w w' := by
  have HI := Lib.hid (indexFunc_fact w v xs g lb p eg hp h)
  have HE := Lib.hid (idxF_nonneg p xs)
  generalize idxF p xs = r at *
  clear h hp
  go_enter Try.func20, Try.ntmps20
  go_wp2_with fail
  refine HI.out.mono ?_
  rintro e w1 ⟨rfl, hb⟩
  go_wp2
  go_ret
  exact ⟨ret_bool HE.out, hb⟩

/-! ### Restarts -/
def restB (fr : Int) (x : FactD) : Bool := decide (fr ≤ x.move) && (x.kind == 11 || x.kind == 10)
theorem eg51 : ∀ args w, (callFunc 51 args).run Try.prog w = .ok (.enter 51 args) w := enters_of Try.func51 (by kernel_rfl) rfl
set_option maxRecDepth 100000 in
set_option maxHeartbeats 1000000 in
theorem rest_clo (w : World) (b : Nat) (fr : Int) (x : FactD) (h : obj w b = some (.cells #[.int .i64 fr] 3 (0, 0))) :
    Calls Try.prog 51 #[.agg (factL x).toArray, .pointer (some ⟨b, 0, none⟩)] w fun e w' => e = .returned (.bool (restB fr x)) ∧ Below w.heap.size w w' := by
  have c0 : w.cell? ⟨b, 0, none⟩ = some (.int .i64 fr) := cell_at h 0
  have hb := lt_of_obj h
  have HB : Hid (restB fr x = (decide (fr ≤ x.move) && (x.kind == 11 || x.kind == 10))) := Lib.hid rfl
  by_cases h1 : fr ≤ x.move
  · have d1 : decide (fr ≤ x.move) = true := by simpa using h1
    cases h2 : x.kind == 11
    · cases h3 : x.kind == 10
      · go_enter Try.func51, Try.ntmps51
        go_wp2
        go_ret
        exact ⟨ret_bool (by rw [HB.out, d1, h2, h3]; rfl), (Below.refl _ w).alloc (Nat.le_refl _) _⟩
      · go_enter Try.func51, Try.ntmps51
        go_wp2
        go_ret
        exact ⟨ret_bool (by rw [HB.out, d1, h2, h3]; rfl), (Below.refl _ w).alloc (Nat.le_refl _) _⟩
    · go_enter Try.func51, Try.ntmps51
      go_wp2
      go_ret
      exact ⟨ret_bool (by rw [HB.out, d1, h2]; rfl), (Below.refl _ w).alloc (Nat.le_refl _) _⟩
  · have d1 : decide (fr ≤ x.move) = false := by simpa using h1
    go_enter Try.func51, Try.ntmps51
    go_wp2
    go_ret
    exact ⟨ret_bool (by rw [HB.out, d1]; rfl), (Below.refl _ w).alloc (Nat.le_refl _) _⟩
set_option maxRecDepth 100000 in
theorem restarts_any (w : World) (v : Value) (xs : List FactD) (fr : Int) (h : SlIn w v 72 factL xs) :
    Calls Try.prog 32 #[v, .int .i64 fr] w fun e w' => e = .returned (.bool (xs.any (restB fr))) ∧ Below w.heap.size w w' := by
  have b1 : Below w.heap.size w (w.alloc (.cells #[.int .i64 fr] 3)) := (Below.refl _ w).alloc (Nat.le_refl _) _
  have o1 : obj (w.alloc (.cells #[.int .i64 fr] 3)) w.heap.size = some (.cells #[.int .i64 fr] 3 (0, 0)) := obj_alloc_at _ _ _ rfl
  have HC := Lib.hid (containsFunc_fact (w.alloc (.cells #[.int .i64 fr] 3)) v xs 51 #[.pointer (some ⟨w.heap.size, 0, none⟩)] (restB fr) eg51 (fun W x hb => rest_clo W _ fr x ((obj_below hb (lt_of_obj o1)).trans o1)) (h.below b1))
  generalize xs.any (restB fr) = r at *
  have hmf : ∀ (fn : Fn) (first cap : Array Value) (w : World), (Instr.makeFunc fn first cap).run Try.prog w = .ok (.func fn first cap) w := fun _ _ _ _ => rfl
  clear h o1
  go_enter Try.func32, Try.ntmps32
  go_wp2_with fail
  refine HC.out.mono ?_
  rintro e w1 ⟨rfl, hb⟩
  go_wp2
  go_ret
  exact ⟨rfl, b1.trans (hb.mono (by simp))⟩
end Go.Proofs.Ytmenfbfekfljbaa
