import Derived.Test.YtfejhekoijemdaaRpCE
import Derived.Test.YtfejhekoijemdaaTakR
namespace Go.Proofs.Ytfejhekoijemdaa
open Go.RowKit

/-! ### Left, Waits -/
structure FoundQ (w : World) (G : Nat → Prop) (ps : List PB) (S : SetM) (R : List (List Int)) (i : Nat) (q : PB) (o : OneM) (sl : List Int) : Prop where
  hq : ps[i]? = some q
  ho : S.l[i]? = some o
  hs : R[i]? = some sl
  pw : RPollW w G q o sl
  rel : RelO o sl
  ok : OneOK o
  hi : sl.length ≤ 64
  lo : 1 ≤ sl.length
theorem found {w : World} {G : Nat → Prop} {rb : Nat} {lv : Value} {ps : List PB} {S : SetM} {R : List (List Int)} (hS : RSetW w G rb lv ps S R) (hok : SetOK S) (hrel : RelS S R) {i : Nat} (hi : i < S.l.length) : ∃ q o sl, FoundQ w G ps S R i q o sl := by
  have h1 : i < ps.length := by rw [hS.len]; exact hi
  have h2 : i < R.length := by rw [hS.lenR]; exact hi
  have e1 := List.getElem?_eq_getElem h1
  have e2 := List.getElem?_eq_getElem hi
  have e3 := List.getElem?_eq_getElem h2
  have ok := hok.one _ (List.getElem_mem hi)
  have rl := hrel.one i _ _ e2 e3
  have hl := rl.len
  exact ⟨_, _, _, e1, e2, e3, hS.one i _ _ _ e1 e2 e3, rl, ok, by have := ok.hi; omega, by have := ok.lo; omega⟩
theorem FoundQ.ptr {w : World} {G : Nat → Prop} {ps : List PB} {S : SetM} {R : List (List Int)} {i : Nat} {q : PB} {o : OneM} {sl : List Int} (h : FoundQ w G ps S R i q o sl) : ptrQ ps (some i) = some ⟨q.p, 0, none⟩ := by
  show (ps[i]?).map _ = _
  rw [h.hq]
  rfl
set_option maxRecDepth 100000 in
set_option maxHeartbeats 2000000 in
theorem rleftS_any (w : World) (G : Nat → Prop) (rb : Nat) (lv : Value) (ps : List PB) (S : SetM) (R : List (List Int)) (n : Int) (hS : RSetW w G rb lv ps S R) (hok : SetOK S) (hrel : RelS S R) (hlen : ps.length ≤ 100000) : Calls Try.prog 43 #[.pointer (some ⟨rb, 0, none⟩), .int .i64 n] w fun e w' => e = .returned (.tuple #[.int .i64 (leftM S n).1, .int .i64 (leftM S n).2]) ∧ w' = w := by
  have HF := Lib.hid (rfind_any w G rb lv ps S R n hS hlen)
  cases hf : findI n S.l with
  | none =>
    rw [hf] at HF
    have HR : Hid (leftM S n = (0, 4)) := Lib.hid (by unfold leftM; rw [hf])
    have hp : ptrQ ps none = none := rfl
    rw [hp] at HF
    clear hS hok hrel hf hp
    go_enter Try.func43, Try.ntmps43
    go_wp2_with fail
    refine HF.out.mono ?_
    rintro e w2 ⟨rfl, hw⟩
    cases hw
    go_wp2_with fail
    go_ret2
    exact ⟨ret_two HR.out, rfl⟩
  | some i =>
    obtain ⟨hi, _⟩ := findI_lt hf
    obtain ⟨q, o, sl, h⟩ := found hS hok hrel hi
    rw [hf, h.ptr] at HF
    have HD := Lib.hid (rdone_any w G rb lv ps S R q o sl hS h.pw h.rel h.ok)
    have HL := Lib.hid (rleft_any w G q o sl h.pw h.rel h.ok)
    have HR : Hid (leftM S n = if isDone S o = true then (0, 0) else (o.left, 0)) := Lib.hid (by unfold leftM; rw [hf]; simp [h.ho])
    clear hS hok hrel hf h
    cases hd : isDone S o with
    | true =>
      rw [hd] at HD HR
      go_enter Try.func43, Try.ntmps43
      go_wp2_with fail
      refine HF.out.mono ?_
      rintro e w2 ⟨rfl, hw⟩
      cases hw
      go_wp2_with fail
      refine HD.out.mono ?_
      rintro e w2 ⟨rfl, hw⟩
      cases hw
      go_wp2_with fail
      go_ret2
      exact ⟨ret_two HR.out, rfl⟩
    | false =>
      rw [hd] at HD HR
      go_enter Try.func43, Try.ntmps43
      go_wp2_with fail
      refine HF.out.mono ?_
      rintro e w2 ⟨rfl, hw⟩
      cases hw
      go_wp2_with fail
      refine HD.out.mono ?_
      rintro e w2 ⟨rfl, hw⟩
      cases hw
      go_wp2_with fail
      refine HL.out.mono ?_
      rintro e w2 ⟨rfl, hw⟩
      cases hw
      go_wp2_with fail
      go_ret2
      exact ⟨ret_two HR.out, rfl⟩
set_option maxRecDepth 100000 in
set_option maxHeartbeats 2000000 in
theorem rwaits_any (w : World) (G : Nat → Prop) (rb : Nat) (lv : Value) (ps : List PB) (S : SetM) (R : List (List Int)) (n v : Int) (hS : RSetW w G rb lv ps S R) (hok : SetOK S) (hrel : RelS S R) (hlen : ps.length ≤ 100000) : Calls Try.prog 44 #[.pointer (some ⟨rb, 0, none⟩), .int .i64 n, .int .i64 v] w fun e w' => e = .returned (.bool (waitsM S n v)) ∧ w' = w := by
  have HF := Lib.hid (rfind_any w G rb lv ps S R n hS hlen)
  cases hf : findI n S.l with
  | none =>
    rw [hf] at HF
    have HR : Hid (waitsM S n v = false) := Lib.hid (by unfold waitsM; rw [hf])
    have hp : ptrQ ps none = none := rfl
    rw [hp] at HF
    clear hS hok hrel hf hp
    go_enter Try.func44, Try.ntmps44
    go_wp2_with fail
    refine HF.out.mono ?_
    rintro e w2 ⟨rfl, hw⟩
    cases hw
    go_wp2_with fail
    go_ret
    exact ⟨ret_bool HR.out.symm, rfl⟩
  | some i =>
    obtain ⟨hi, _⟩ := findI_lt hf
    obtain ⟨q, o, sl, h⟩ := found hS hok hrel hi
    rw [hf, h.ptr] at HF
    have HD := Lib.hid (rdone_any w G rb lv ps S R q o sl hS h.pw h.rel h.ok)
    have HR : Hid (waitsM S n v = if isDone S o = true then false else decide (0 < waitsOf o v)) := Lib.hid (by unfold waitsM; rw [hf]; simp [h.ho])
    have HH := Lib.hid h
    clear hS hok hrel hf h
    cases hd : isDone S o with
    | true =>
      rw [hd] at HD HR
      go_enter Try.func44, Try.ntmps44
      go_wp2_with fail
      refine HF.out.mono ?_
      rintro e w2 ⟨rfl, hw⟩
      cases hw
      go_wp2_with fail
      refine HD.out.mono ?_
      rintro e w2 ⟨rfl, hw⟩
      cases hw
      go_wp2_with fail
      go_ret
      exact ⟨ret_bool HR.out.symm, rfl⟩
    | false =>
      rw [hd, if_neg (by decide)] at HR
      rw [hd] at HD
      generalize waitsM S n v = D at *
      obtain ⟨-, c1, c2, -⟩ := HH.out.pw.cells
      obtain ⟨oa, cap, e, g1, g2, g3⟩ := HH.out.pw.so.slIn intL_length
      rw [e] at c1
      have H3 := Lib.hid g3
      have HFL := Lib.hid (fun j (hj : j < sl.length) => HH.out.pw.flag hj)
      have lf := HH.out.pw.flt
      have lq := lt_of_obj HH.out.pw.box
      have hl64 := HH.out.hi
      obtain ⟨f1, f2⟩ := HH.out.pw.fc
      unfold maxLen at f2 g2
      clear g3 e
      go_enter Try.func44, Try.ntmps44
      go_wp2_with fail
      refine HF.out.mono ?_
      rintro e w2 ⟨rfl, hw⟩
      cases hw
      go_wp2_with fail
      refine HD.out.mono ?_
      rintro e w2 ⟨rfl, hw⟩
      cases hw
      clear HD HF
      go_wp2_with fail
      go_loopw [8] (fun v8 wr => ∃ k : Nat, k ≤ sl.length ∧ v8 = .int .i64 k ∧ Hid (∀ (j : Nat) (hj : j < sl.length), j < k → sl[j] = v → keyIn o v = false) ∧ wr = w) (fun i _ => sl.length - (intOf i).toNat)
      case atStart => exact ⟨0, Nat.zero_le _, rfl, Lib.hid (by omega), rfl⟩
      case round =>
        obtain ⟨k, hk, rfl, HK, rfl⟩ := hrel
        by_cases hlt : k < sl.length
        · obtain ⟨b, off, rfl, hbb, hrow⟩ := H3.out (by omega)
          have hs := hrow k hlt
          have cs : wr.cell? ⟨b, off + k, none⟩ = some (.int .i64 sl[k]) := by have := subOf_cell hs (j := 0) (by decide); simpa [intL] using this
          have fk := HFL.out k hlt
          have HN : Hid ((sl[k] = v → keyIn o v = false) → ∀ (j : Nat) (hj : j < sl.length), j < k + 1 → sl[j] = v → keyIn o v = false) := Lib.hid (fun h j hj h1 h2 => by
            by_cases e : j = k
            · subst e; exact h h2
            · exact HK.out j hj (by omega) h2)
          have HT : Hid (keyIn o v = true → D = true) := Lib.hid (fun h => by rw [HR.out]; exact HH.out.rel.hit HH.out.ok h)
          clear hrow hs
          have hki : (k : Int) < sl.length := by omega
          by_cases he : sl[k] = v
          · rw [he] at fk cs
            rcases Bool.eq_false_or_eq_true (keyIn o v) with hkk | hkk
            · have HRR := Lib.hid (HT.out hkk)
              rw [hkk] at fk
              clear HT HN hkk he
              go_wp2_with fail
              go_ret
              exact ⟨ret_bool HRR.out.symm, rfl⟩
            · have HNN := Lib.hid (HN.out (fun _ => hkk))
              rw [hkk] at fk
              clear HT HN hkk he
              go_wp2_with fail
              go_roundw
              case rel => exact ⟨k + 1, by omega, by go_num, HNN, trivial⟩
              case measure => simp [intOf]; omega
          · have he' : (sl[k] == v) = false := by simpa using he
            have HNN := Lib.hid (HN.out (fun h => absurd h he))
            generalize sl[k] = s at *
            clear HT HN
            go_wp2_with fail
            go_roundw
            case rel => exact ⟨k + 1, by omega, by go_num, HNN, trivial⟩
            case measure => simp [intOf]; omega
        · have HE : Hid (D = false) := Lib.hid (by
            rw [HR.out]
            exact HH.out.rel.miss HH.out.ok fun j hj e => HK.out j hj (by omega) e)
          have hk2 : ¬ (k : Int) < sl.length := by omega
          go_wp2_with fail
          go_ret
          exact ⟨ret_bool HE.out.symm, rfl⟩
end Go.Proofs.Ytfejhekoijemdaa
