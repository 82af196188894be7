import Derived.Test.YtfejhekoijemdaaTakes
import Derived.Deep.RegionHeld3
namespace Go.Proofs.Ytfejhekoijemdaa
open Go.RowKit

def dropM (S : SetM) (n v : Int) : SetM × Int :=
  match findI n S.l with
  | none => (S, 4)
  | some i => match S.l[i]? with
    | none => (S, 4)
    | some o => if isDone S o = true then (S, 4) else (modS S i (takeO v), if waitsOf o v = 0 then 4 else 0)
def voteM (S : SetM) (n v : Int) (id : ID) : SetM × Int :=
  match findI n S.l with
  | none => (S, 4)
  | some i => match S.l[i]? with
    | none => (S, 4)
    | some o => if isDone S o = true then (S, 4) else if waitsOf o v = 0 then (modS S i (takeO v), 4) else (modS S i (voteO v id), 0)
/-- what an act hands back that makes no block of the set's own -/
def ErrR (w : World) (M V : Nat → Prop) (b : Nat) (lv : Value) (ps : List (Nat × Nat)) (r : SetM × Int) (e : Ending) (w' : World) : Prop :=
  e = .returned (.int .i64 r.2) ∧ ∃ V', SetW w' M V' b lv ps r.1 ∧ (∀ n, V n → V' n) ∧ (∀ n, V' n → V n ∨ w.heap.size ≤ n) ∧ Keeps M w w'
theorem ErrR.of {w w' : World} {M V : Nat → Prop} {b : Nat} {lv : Value} {ps : List (Nat × Nat)} {r : SetM × Int} {S : SetM} {c : Int} (hr : r = (S, c)) (h : SetW w' M V b lv ps S) (hk : Keeps M w w') : ErrR w M V b lv ps r (.returned (.int .i64 c)) w' := by
  subst hr
  exact ⟨rfl, V, h, fun _ h => h, fun _ h => .inl h, hk⟩
theorem ErrR.ofV {w w' : World} {M V V' : Nat → Prop} {b : Nat} {lv : Value} {ps : List (Nat × Nat)} {r : SetM × Int} {S : SetM} {c : Int} (hr : r = (S, c)) (h : SetW w' M V' b lv ps S) (h1 : ∀ n, V n → V' n) (h2 : ∀ n, V' n → V n ∨ w.heap.size ≤ n) (hk : Keeps M w w') : ErrR w M V b lv ps r (.returned (.int .i64 c)) w' := by
  subst hr
  exact ⟨rfl, V', h, h1, h2, hk⟩
set_option maxRecDepth 100000 in
set_option maxHeartbeats 2000000 in
/-- (*Set).Drop -/
theorem drop_any (w : World) (M V : Nat → Prop) (b : Nat) (lv : Value) (ps : List (Nat × Nat)) (S : SetM) (h : SetW w M V b lv ps S) (hok : SetOK S) (n v : Int) :
    Calls Try.prog 13 #[.pointer (some ⟨b, 0, none⟩), .int .i64 n, .int .i64 v] w (ErrR w M V b lv ps (dropM S n v)) := by
  have HN := Lib.hid (none_no w M V b lv ps S h hok.p0)
  have HW := Lib.hid h
  cases hf : findI n S.l with
  | none =>
    have HT := Lib.hid (takes_none w M V b lv ps S h hok.p0 n v hf)
    have HR : Hid (dropM S n v = (S, 4)) := Lib.hid (by unfold dropM; rw [hf])
    clear h hok hf
    go_enter Try.func13, Try.ntmps13
    go_wp2_with fail
    refine HN.out.mono ?_
    rintro e w1 ⟨rfl, rfl⟩
    go_wp2_with fail
    refine HT.out.mono ?_
    rintro e w2 ⟨rfl, b2⟩
    have B2 := Lib.hid b2
    clear b2
    go_wp2
    go_ret
    exact ErrR.of HR.out (HW.out.below B2.out) (Keeps.of_below B2.out)
  | some i =>
    obtain ⟨hi, _⟩ := findI_lt hf
    have hil : i < ps.length := by rw [h.len]; exact hi
    have ho := List.getElem?_eq_getElem hi
    have hpi := List.getElem?_eq_getElem hil
    have hoo := hok.one _ (List.getElem_mem hi)
    generalize S.l[i] = o at *
    generalize ps[i] = p at *
    cases hd : isDone S o with
    | true =>
      have HT := Lib.hid (takes_done w M V b lv ps S h hok.p0 n v i p o hf hpi ho hoo hd)
      have HR : Hid (dropM S n v = (S, 4)) := Lib.hid (by unfold dropM; rw [hf]; simp only [ho, hd, if_true])
      clear h hok hf hi hil ho hpi hoo hd
      go_enter Try.func13, Try.ntmps13
      go_wp2_with fail
      refine HN.out.mono ?_
      rintro e w1 ⟨rfl, rfl⟩
      go_wp2_with fail
      refine HT.out.mono ?_
      rintro e w2 ⟨rfl, b2⟩
      have B2 := Lib.hid b2
      clear b2
      go_wp2
      go_ret
      exact ErrR.of HR.out (HW.out.below B2.out) (Keeps.of_below B2.out)
    | false =>
      have HT := Lib.hid (takes_some w M V b lv ps S h hok.p0 n v i p o hf hpi ho hoo hd)
      by_cases h0 : waitsOf o v = 0
      · have HR : Hid (dropM S n v = (modS S i (takeO v), 4)) := Lib.hid (by unfold dropM; rw [hf]; simp [ho, hd, h0])
        rw [h0] at HT
        clear h hok hf hi hil ho hpi hoo hd h0
        go_enter Try.func13, Try.ntmps13
        go_wp2_with fail
        refine HN.out.mono ?_
        rintro e w1 ⟨rfl, rfl⟩
        go_wp2_with fail
        refine HT.out.mono ?_
        rintro e w2 ⟨rfl, s2, k2⟩
        have S2 := Lib.hid s2
        have K2 := Lib.hid k2
        clear s2 k2
        go_wp2
        go_ret
        exact ErrR.of HR.out S2.out K2.out
      · have HR : Hid (dropM S n v = (modS S i (takeO v), 0)) := Lib.hid (by unfold dropM; rw [hf]; simp [ho, hd, h0])
        generalize waitsOf o v = q at *
        clear h hok hf hi hil ho hpi hoo hd
        go_enter Try.func13, Try.ntmps13
        go_wp2_with fail
        refine HN.out.mono ?_
        rintro e w1 ⟨rfl, rfl⟩
        go_wp2_with fail
        refine HT.out.mono ?_
        rintro e w2 ⟨rfl, s2, k2⟩
        have S2 := Lib.hid s2
        have K2 := Lib.hid k2
        clear s2 k2
        go_wp2
        go_ret
        exact ErrR.of HR.out S2.out K2.out
end Go.Proofs.Ytfejhekoijemdaa
