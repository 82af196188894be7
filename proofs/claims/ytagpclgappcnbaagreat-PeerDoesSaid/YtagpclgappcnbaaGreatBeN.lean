import Derived.Test.YtagpclgappcnbaaGreatWide
import Derived.Laws.RangeString
import Derived.Laws.RangeAny
import Derived.LoopTactic
import Derived.BigQuiet
import Derived.StillTailTactics
namespace Go.Proofs.YtagpclgappcnbaaGreat.Be
open Go.RowKit

/-! ### names -/
theorem width_pos (s : ByteArray) (pos : Nat) (h : pos < s.size) : 1 ≤ (Utf8.decode s pos).2 := by
  by_cases ha : (s[pos]'h).toNat < 128
  · rw [decode_ascii s pos h ha]
    exact Nat.le_refl _
  · exact (decode_high s pos h (by omega)).2
/-- a text's runes from a place on -/
def rns (s : ByteArray) : Nat → Nat → List Int
  | 0, _ => []
  | b + 1, pos => if pos < s.size then ((Utf8.decode s pos).1 : Int) :: rns s b (pos + (Utf8.decode s pos).2) else []
theorem rns_end (s : ByteArray) (b pos : Nat) (h : ¬ pos < s.size) : rns s b pos = [] := by
  cases b with
  | zero => rfl
  | succ b => simp [rns, h]
theorem rns_one (s : ByteArray) (b pos : Nat) (h : pos < s.size) (hb : s.size ≤ pos + b) : ∃ b', rns s b pos = ((Utf8.decode s pos).1 : Int) :: rns s b' (pos + (Utf8.decode s pos).2) ∧ s.size ≤ pos + (Utf8.decode s pos).2 + b' := by
  cases b with
  | zero => omega
  | succ b => exact ⟨b, by simp [rns, h], by have := width_pos s pos h; omega⟩
theorem rns_len (s : ByteArray) : ∀ b pos, (rns s b pos).length ≤ b := by
  intro b
  induction b with
  | zero => intro pos; simp [rns]
  | succ b ih =>
    intro pos
    unfold rns
    split
    · simp; exact ih _
    · simp
def runesOf (s : ByteArray) : List Int := rns s s.size 0
def isLetter (c : Int) : Bool := decide (48 ≤ c ∧ c ≤ 57) || decide (97 ≤ c ∧ c ≤ 122) || decide (c = 45) || decide (192 ≤ c ∧ c ≤ 591 ∧ c ≠ 215 ∧ c ≠ 247)
def nameE (s : ByteArray) : Int := if 1 ≤ (runesOf s).length ∧ (runesOf s).length ≤ 16 ∧ (runesOf s).all isLetter = true then 0 else 50

set_option maxHeartbeats 400000 in
theorem letterA (c : Int) (w : World) : Calls Tryz.prog 113 #[.int .i32 c] w fun e w' => e = .returned (.bool (isLetter c)) ∧ w = w' := by
  go_enter Tryz.func113, Tryz.ntmps113
  go_wp2
  all_goals (go_ret; refine ⟨ret_bool ?_, rfl⟩; unfold isLetter; rw [Bool.eq_iff_iff]; simp_all <;> omega)
set_option maxHeartbeats 400000 in
theorem letterB (c : Int) (w : World) : Calls Tryz.prog 115 #[.int .i32 c] w fun e w' => e = .returned (.bool (isLetter c)) ∧ w = w' := by
  go_enter Tryz.func115, Tryz.ntmps115
  go_wp2
  all_goals (go_ret; refine ⟨ret_bool ?_, rfl⟩; unfold isLetter; rw [Bool.eq_iff_iff]; simp_all <;> omega)
theorem below_iter (w : World) (s : ByteArray) (pos : Nat) : Below w.heap.size w (w.iter s pos) := (Below.refl _ w).alloc (Nat.le_refl _) _
end Go.Proofs.YtagpclgappcnbaaGreat.Be
namespace Go.Proofs.YtagpclgappcnbaaGreat.Be
open Go.RowKit

theorem wrapS (k : Nat) (h : k < 9223372036854775807) : IntKind.i64.wrap ((k : Int) + 1) = ((k + 1 : Nat) : Int) := by
  simp [IntKind.wrap, IntKind.signed, IntKind.bits]; omega
set_option maxHeartbeats 400000 in
theorem runes_any (s : ByteArray) (hs : s.size ≤ 4611686018427387904) (w : World) : Calls Tryz.prog 114 #[.string s] w fun e w' => e = .returned (.int .i64 (runesOf s).length) ∧ Below w.heap.size w w' := by
  have hL := rns_len s s.size 0
  go_enter Tryz.func114, Tryz.ntmps114
  go_wp2
  go_loopw [3] (fun v w' => ∃ pos b k : Nat, w' = w.iter s pos ∧ v = .int .i64 k ∧ s.size ≤ pos + b ∧ k + (rns s b pos).length = (runesOf s).length) (fun _ w' => s.size - w'.iterPos w.heap.size)
  case atStart => exact ⟨0, s.size, 0, rfl, rfl, by omega, by simp [runesOf]⟩
  case round =>
    obtain ⟨pos, b, k, rfl, rfl, hb, hc⟩ := hrel
    have HC := Lib.hid hc
    have HL := Lib.hid hL
    clear hc hL
    by_cases hp : pos < s.size
    · have hnx : ∀ ty, (Instr.next (.pointer (some ⟨w.heap.size, 0, none⟩)) true ty).run Tryz.prog (w.iter s pos) = _ := fun ty => run_next_any w s pos ty hp
      go_wp2
      have hwd := width_pos s pos hp
      obtain ⟨b', e1, e2⟩ := rns_one s b pos hp hb
      have hc := HC.out
      have hl := HL.out
      rw [e1] at hc
      simp only [List.length_cons] at hc
      change (runesOf s).length ≤ _ at hl
      go_roundw
      case rel =>
        refine ⟨_, b', k + 1, rfl, ?_, e2, by omega⟩
        have hk4 : k < 4611686018427387904 := by omega
        clear hc hl
        congr 1
        unfold wrap64
        omega
      case measure => simp; omega
    · have hnx : ∀ ty, (Instr.next (.pointer (some ⟨w.heap.size, 0, none⟩)) true ty).run Tryz.prog (w.iter s pos) = _ := fun ty => run_next_end w s pos ty hp
      have hk : k = (runesOf s).length := by have := HC.out; rw [rns_end s b pos hp] at this; simpa using this
      subst hk
      go_wp2
      go_ret
      exact ⟨rfl, below_iter w s pos⟩
set_option maxHeartbeats 400000 in
theorem nameA (s : ByteArray) (w : World) : Calls Tryz.prog 65 #[.string s] w fun e w' => e = .returned (.int .i64 (nameE s)) ∧ Below w.heap.size w w' := by
  go_enter Tryz.func65, Tryz.ntmps65
  go_wp2
  go_loopw [3] (fun v w' => ∃ pos b k : Nat, w' = w.iter s pos ∧ v = .int .i64 k ∧ s.size ≤ pos + b ∧ k ≤ 16 ∧ k + (rns s b pos).length = (runesOf s).length ∧ (rns s b pos).all isLetter = (runesOf s).all isLetter) (fun _ w' => s.size - w'.iterPos w.heap.size)
  case atStart => exact ⟨0, s.size, 0, rfl, rfl, by omega, by omega, by simp [runesOf], by simp [runesOf]⟩
  case round =>
    obtain ⟨pos, b, k, rfl, rfl, hb, hk, hc, ha⟩ := hrel
    have HC := Lib.hid hc
    have HA := Lib.hid ha
    clear hc ha
    by_cases hp : pos < s.size
    · have hnx : ∀ ty, (Instr.next (.pointer (some ⟨w.heap.size, 0, none⟩)) true ty).run Tryz.prog (w.iter s pos) = _ := fun ty => run_next_any w s pos ty hp
      have hwd := width_pos s pos hp
      obtain ⟨b', e1, e2⟩ := rns_one s b pos hp hb
      have hc := HC.out
      have ha := HA.out
      rw [e1] at hc ha
      simp only [List.length_cons] at hc
      simp only [List.all_cons] at ha
      generalize hR : (Utf8.decode s pos).1 = R at *
      generalize hW : (Utf8.decode s pos).2 = K at *
      have HC2 := Lib.hid hc
      have HA2 := Lib.hid ha
      clear hc ha e1 HC HA
      have hwk : IntKind.i64.wrap ((k : Int) + 1) = ((k + 1 : Nat) : Int) := wrapS k (by omega)
      by_cases h16 : 16 < k + 1
      · have hn : nameE s = 50 := by have := HC2.out; unfold nameE; rw [if_neg]; omega
        go_wp2
        go_ret
        exact ⟨by first | rfl | (rw [hn]; rfl), below_iter w s _⟩
      · have HLT := Lib.hid (letterA (R : Int) (w.iter s (pos + K)))
        by_cases hl : isLetter (R : Int) = true
        · rw [hl] at HLT
          have hl2 := Lib.hid hl
          clear hl
          go_wp2_with fail
          refine HLT.out.mono ?_
          rintro e w2 ⟨rfl, rfl⟩
          go_wp2
          go_roundw
          case rel =>
            have ha := HA2.out
            rw [hl2.out, Bool.true_and] at ha
            exact ⟨pos + K, b', k + 1, rfl, by simp, e2, by omega, by have := HC2.out; omega, ha⟩
          case measure => simp; omega
        · simp only [Bool.not_eq_true] at hl
          rw [hl] at HLT
          have hn : nameE s = 50 := by
            have := HA2.out
            rw [hl, Bool.false_and] at this
            unfold nameE
            rw [if_neg]
            rintro ⟨_, _, h⟩
            rw [h] at this
            cases this
          clear hl
          go_wp2_with fail
          refine HLT.out.mono ?_
          rintro e w2 ⟨rfl, rfl⟩
          go_wp2
          go_ret
          exact ⟨by first | rfl | (rw [hn]; rfl), below_iter w s _⟩
    · have hnx : ∀ ty, (Instr.next (.pointer (some ⟨w.heap.size, 0, none⟩)) true ty).run Tryz.prog (w.iter s pos) = _ := fun ty => run_next_end w s pos ty hp
      have hc := HC.out
      have ha := HA.out
      rw [rns_end s b pos hp] at hc ha
      simp only [List.length_nil, Nat.add_zero] at hc
      simp only [List.all_nil] at ha
      by_cases h0 : k = 0
      · subst h0
        have hn : nameE s = 50 := by unfold nameE; rw [if_neg]; omega
        clear hc ha
        go_wp2
        go_ret
        exact ⟨by first | rfl | (rw [hn]; rfl), below_iter w s _⟩
      · have hn : nameE s = 0 := by unfold nameE; rw [if_pos ⟨by omega, by omega, ha.symm⟩]
        have hk0 : ¬ (k : Int) = 0 := by omega
        clear hc ha
        go_wp2
        go_ret
        exact ⟨by first | rfl | (rw [hn]; rfl), below_iter w s _⟩
set_option maxHeartbeats 400000 in
theorem nameB (s : ByteArray) (hs : s.size ≤ 4611686018427387904) (w : World) : Calls Tryz.prog 68 #[.string s] w fun e w' => e = .returned (.int .i64 (nameE s)) ∧ Below w.heap.size w w' := by
  have HRU := Lib.hid (runes_any s hs w)
  by_cases hn : 1 ≤ (runesOf s).length ∧ (runesOf s).length ≤ 16
  · have d1 : decide (((runesOf s).length : Int) < 1) = false := by simp; omega
    have d2 : decide ((16 : Int) < ((runesOf s).length : Int)) = false := by simp; omega
    go_enter Tryz.func68, Tryz.ntmps68
    go_wp2_with fail
    refine HRU.out.mono ?_
    rintro e w1 ⟨rfl, b1⟩
    have B1 := Lib.hid b1
    clear b1
    go_wp2
    go_loopw [] (fun w' => ∃ pos b : Nat, w' = w1.iter s pos ∧ s.size ≤ pos + b ∧ (rns s b pos).all isLetter = (runesOf s).all isLetter) (fun w' => s.size - w'.iterPos w1.heap.size)
    case atStart => exact ⟨0, s.size, rfl, by omega, by simp [runesOf]⟩
    case round =>
      obtain ⟨pos, b, rfl, hb, ha⟩ := hrel
      have HA := Lib.hid ha
      clear ha
      by_cases hp : pos < s.size
      · have hnx : ∀ ty, (Instr.next (.pointer (some ⟨w1.heap.size, 0, none⟩)) true ty).run Tryz.prog (w1.iter s pos) = _ := fun ty => run_next_any w1 s pos ty hp
        have hwd := width_pos s pos hp
        obtain ⟨b', e1, e2⟩ := rns_one s b pos hp hb
        have ha := HA.out
        rw [e1] at ha
        simp only [List.all_cons] at ha
        generalize hR : (Utf8.decode s pos).1 = R at *
        generalize hW : (Utf8.decode s pos).2 = K at *
        have HA2 := Lib.hid ha
        clear ha e1 HA
        have HLT := Lib.hid (letterB (R : Int) (w1.iter s (pos + K)))
        by_cases hl : isLetter (R : Int) = true
        · rw [hl] at HLT
          have hl2 := Lib.hid hl
          clear hl
          go_wp2_with fail
          refine HLT.out.mono ?_
          rintro e w2 ⟨rfl, rfl⟩
          go_wp2
          go_roundw
          case rel =>
            have ha := HA2.out
            rw [hl2.out, Bool.true_and] at ha
            exact ⟨pos + K, b', rfl, e2, ha⟩
          case measure => simp; omega
        · simp only [Bool.not_eq_true] at hl
          rw [hl] at HLT
          have hn : nameE s = 50 := by
            have := HA2.out
            rw [hl, Bool.false_and] at this
            unfold nameE
            rw [if_neg]
            rintro ⟨_, _, h⟩
            rw [h] at this
            cases this
          clear hl
          go_wp2_with fail
          refine HLT.out.mono ?_
          rintro e w2 ⟨rfl, rfl⟩
          go_wp2
          go_ret
          exact ⟨by first | rfl | (rw [hn]; rfl), B1.out.trans ((below_iter w1 s _).mono B1.out.size)⟩
      · have hnx : ∀ ty, (Instr.next (.pointer (some ⟨w1.heap.size, 0, none⟩)) true ty).run Tryz.prog (w1.iter s pos) = _ := fun ty => run_next_end w1 s pos ty hp
        have ha := HA.out
        rw [rns_end s b pos hp] at ha
        simp only [List.all_nil] at ha
        have hn : nameE s = 0 := by unfold nameE; rw [if_pos ⟨by omega, by omega, ha.symm⟩]
        clear ha
        go_wp2
        go_ret
        exact ⟨by first | rfl | (rw [hn]; rfl), B1.out.trans ((below_iter w1 s _).mono B1.out.size)⟩
  · have hn2 : nameE s = 50 := by unfold nameE; rw [if_neg]; omega
    by_cases h1 : ((runesOf s).length : Int) < 1
    · clear hn
      go_enter Tryz.func68, Tryz.ntmps68
      go_wp2_with fail
      refine HRU.out.mono ?_
      rintro e w1 ⟨rfl, b1⟩
      go_wp2
      go_ret
      exact ⟨by first | rfl | (rw [hn2]; rfl), b1⟩
    · have h2 : (16 : Int) < ((runesOf s).length : Int) := by omega
      clear hn
      go_enter Tryz.func68, Tryz.ntmps68
      go_wp2_with fail
      refine HRU.out.mono ?_
      rintro e w1 ⟨rfl, b1⟩
      go_wp2
      go_ret
      exact ⟨by first | rfl | (rw [hn2]; rfl), b1⟩
end Go.Proofs.YtagpclgappcnbaaGreat.Be
namespace Go.Proofs.YtagpclgappcnbaaGreat.Be
open Go.RowKit

/-! ### validators: a name and a weight -/
structure Vd where
  name : ByteArray
  wt : Int
@[reducible] def vdL (a : Vd) : List Value := [.string a.name, .int .i64 a.wt]
@[reducible] def vdV (a : Vd) : Value := .agg #[.string a.name, .int .i64 a.wt]
theorem vdL_length (a : Vd) : (vdL a).length = 2 := rfl
theorem vdL_one (a : Vd) : allOne (vdL a).toArray = true := rfl
@[go_sem ↓] theorem hide_load65 (a : Addr) : loadVar 38 a = loadAgg 38 a := rfl
@[go_sem ↓] theorem hide_store65 (a : Addr) (v : Value) : storeVar 38 a v = storeAgg 38 a v := rfl
@[go_sem] theorem run_load65 (b off : Nat) (W : World) : (loadAgg 38 ⟨b, off, none⟩).run Tryz.prog W = loadRes Tryz.prog 38 ⟨b, off, none⟩ W (subOf (obj W b) off 2) := run_loadAgg Tryz.isAgg38 Tryz.sizeOf38 b off W
@[go_sem] theorem run_store65 (b off : Nat) (cs : Array Value) (W : World) : (storeAgg 38 ⟨b, off, none⟩ (.agg cs)).run Tryz.prog W = storeRes Tryz.prog 38 ⟨b, off, none⟩ (.agg cs) W (putOf (obj W b) off 2 cs) := run_storeAgg Tryz.sizeOf38 b off cs W
theorem b65 {B : Nat} {w : World} (W : World) (h : Below B w W) (hB : B ≤ W.heap.size) (o : Obj) : Below B w (W.alloc o) := h.alloc hB o

def findF (nm : ByteArray) : List Vd → Nat → Int
  | [], _ => -1
  | x :: r, i => if (x.name.toList == nm.toList) = true then i else findF nm r (i + 1)
def findI (l : List Vd) (nm : ByteArray) : Int := findF nm l 0
def namesF (l : List Vd) : List Vd → Nat → Bool
  | [], _ => true
  | x :: r, i => if nameE x.name = 0 ∧ findI l x.name = i then namesF l r (i + 1) else false
def wtsF : Int → List Vd → Bool
  | _, [] => true
  | left, x :: r => if x.wt < 1 ∨ left < x.wt then false else wtsF (left - x.wt) r
theorem findF_cons (nm : ByteArray) (x : Vd) (r : List Vd) (i : Nat) : findF nm (x :: r) i = if (x.name.toList == nm.toList) = true then (i : Int) else findF nm r (i + 1) := rfl
theorem namesF_cons (l : List Vd) (x : Vd) (r : List Vd) (i : Nat) : namesF l (x :: r) i = if nameE x.name = 0 ∧ findI l x.name = i then namesF l r (i + 1) else false := rfl
theorem wtsF_cons (left : Int) (x : Vd) (r : List Vd) : wtsF left (x :: r) = if x.wt < 1 ∨ left < x.wt then false else wtsF (left - x.wt) r := rfl
def chk (l : List Vd) : Int := if l.length < 1 ∨ 32 < l.length then 3 else if namesF l l 0 = true then (if wtsF 4611686018427387903 l = true then 0 else 51) else 50
theorem nameE_cases (s : ByteArray) : nameE s = 0 ∨ nameE s = 50 := by unfold nameE; split <;> simp
theorem chk_32 {l : List Vd} (h : chk l = 0) : 1 ≤ l.length ∧ l.length ≤ 32 ∧ namesF l l 0 = true ∧ wtsF 4611686018427387903 l = true := by
  unfold chk at h
  split at h
  · cases h
  · split at h
    · split at h
      · exact ⟨by omega, by omega, by assumption, by assumption⟩
      · cases h
    · cases h
theorem findF_bd (nm : ByteArray) : ∀ (r : List Vd) (i : Nat), -1 ≤ findF nm r i ∧ findF nm r i < ((i + r.length : Nat) : Int) + 1 := by
  intro r
  induction r with
  | nil => intro i; simp [findF]; omega
  | cons x r ih =>
    intro i
    unfold findF
    split
    · simp; omega
    · have := ih (i + 1); simp at this ⊢; omega

set_option maxRecDepth 100000 in
set_option maxHeartbeats 400000 in
theorem findB (w : World) (v : Value) (l : List Vd) (nm : ByteArray) (h : SlIn w v 2 vdL l) : Calls Tryz.prog 69 #[v, .string nm] w fun e w' => e = .returned (.int .i64 (findI l nm)) ∧ w = w' := by
  obtain ⟨oa, cap, rfl, g1, g2, g3⟩ := h
  unfold maxLen at g2
  have H3 := Lib.hid g3
  clear g3
  go_enter Tryz.func69, Tryz.ntmps69
  go_wp2
  go_loopw [5] (fun v5 wr => ∃ k : Nat, k ≤ l.length ∧ v5 = .int .i64 k ∧ w = wr ∧ Hid (findF nm (l.drop k) k = findI l nm)) (fun i _ => l.length - (intOf i).toNat)
  case atStart => exact ⟨0, Nat.zero_le _, rfl, rfl, Lib.hid rfl⟩
  case round =>
    obtain ⟨k, hk, rfl, rfl, HF⟩ := hrel
    by_cases hlt : k < l.length
    · obtain ⟨b, off, hoa, hbb, hrow⟩ := H3.out (by omega)
      subst hoa
      have hs1 := hrow k hlt
      have hF := HF.out
      rw [List.drop_eq_getElem_cons hlt] at hF
      generalize l[k] = x at *
      obtain ⟨xn, xw⟩ := x
      have c0 : w.cell? ⟨b, off + k * 2, none⟩ = some (.string xn) := by have := subOf_cell hs1 (j := 0) (by decide); simpa using this
      clear hs1 hrow
      rw [findF_cons] at hF
      by_cases he : (xn.toList == nm.toList) = true
      · rw [if_pos he] at hF
        have HG := Lib.hid hF
        clear hF
        go_wp2
        go_ret
        exact ⟨ret_int HG.out, rfl⟩
      · rw [if_neg he] at hF
        simp only [Bool.not_eq_true] at he
        have HG := Lib.hid hF
        clear hF HF
        go_wp2
        go_roundw
        case rel => exact ⟨k + 1, by omega, by go_num, by first | rfl | trivial, HG⟩
        case measure => simp [intOf]; omega
    · have hF := HF.out
      rw [List.drop_eq_nil_of_le (by omega)] at hF
      have HG := Lib.hid hF
      clear hF HF
      go_wp2
      go_ret
      exact ⟨ret_int HG.out, rfl⟩
set_option maxRecDepth 100000 in
set_option maxHeartbeats 400000 in
theorem findA (w : World) (v : Value) (l : List Vd) (nm : ByteArray) (h : SlIn w v 2 vdL l) : Calls Tryz.prog 66 #[v, .string nm] w fun e w' => e = .returned (.int .i64 (findI l nm)) ∧ Below w.heap.size w w' := by
  obtain ⟨oa, cap, rfl, g1, g2, g3⟩ := h
  unfold maxLen at g2
  have H3 := Lib.hid g3
  clear g3
  go_enter Tryz.func66, Tryz.ntmps66
  go_wp2
  go_loopw [9] (fun v9 wr => ∃ k : Nat, k ≤ l.length ∧ v9 = .int .i64 k ∧ Hid (Below w.heap.size w wr) ∧ Hid (findF nm (l.drop k) k = findI l nm)) (fun i _ => l.length - (intOf i).toNat)
  case atStart => exact ⟨0, Nat.zero_le _, rfl, Lib.hid (Below.refl _ _), Lib.hid rfl⟩
  case round =>
    obtain ⟨k, hk, rfl, HB, HF⟩ := hrel
    by_cases hlt : k < l.length
    · obtain ⟨b, off, hoa, hbb, hrow⟩ := H3.out (by omega)
      subst hoa
      have hs1 := hrow k hlt
      rw [← obj_below HB.out hbb] at hs1
      have hbl : b < wr.heap.size := Nat.lt_of_lt_of_le hbb HB.out.size
      have hF := HF.out
      rw [List.drop_eq_getElem_cons hlt] at hF
      generalize l[k] = x at *
      obtain ⟨xn, xw⟩ := x
      simp only [vdL] at hs1
      clear hrow
      rw [findF_cons] at hF
      have HBA := Lib.hid (HB.out.alloc HB.out.size (.cells #[.string xn, .int .i64 xw] 38))
      by_cases he : (xn.toList == nm.toList) = true
      · rw [if_pos he] at hF
        have HG := Lib.hid hF
        clear hF HF
        go_wp2
        go_ret
        exact ⟨ret_int HG.out, HBA.out⟩
      · rw [if_neg he] at hF
        simp only [Bool.not_eq_true] at he
        have HG := Lib.hid hF
        clear hF HF
        go_wp2
        go_roundw
        case rel => exact ⟨k + 1, by omega, by go_num, HBA, HG⟩
        case measure => simp [intOf]; omega
    · have hF := HF.out
      rw [List.drop_eq_nil_of_le (by omega)] at hF
      have HG := Lib.hid hF
      clear hF HF
      go_wp2
      go_ret
      exact ⟨ret_int HG.out, HB.out⟩
set_option maxRecDepth 100000 in
set_option maxHeartbeats 1000000 in
/-- vdr.Check -/
theorem checkA (w : World) (v : Value) (l : List Vd) (h : SlIn w v 2 vdL l) : Calls Tryz.prog 21 #[v] w fun e w' => e = .returned (.int .i64 (chk l)) ∧ Below w.heap.size w w' := by
  have HS := Lib.hid h
  obtain ⟨oa, cap, rfl, g1, g2, g3⟩ := h
  unfold maxLen at g2
  have H3 := Lib.hid g3
  clear g3
  by_cases hl : l.length < 1 ∨ 32 < l.length
  · have hc : chk l = 3 := by unfold chk; rw [if_pos hl]
    rw [hc]
    have hl' : (l.length : Int) < 1 ∨ (32 : Int) < (l.length : Int) := by omega
    clear hl hc H3 HS
    rcases hl' with hl' | hl'
    · go_enter Tryz.func21, Tryz.ntmps21
      go_wp2
      go_ret
      exact ⟨rfl, Below.refl _ _⟩
    · have hl2 : ¬ (l.length : Int) < 1 := by omega
      go_enter Tryz.func21, Tryz.ntmps21
      go_wp2
      go_ret
      exact ⟨rfl, Below.refl _ _⟩
  · have hl1 : ¬ (l.length : Int) < 1 := by omega
    have hl2 : ¬ (32 : Int) < (l.length : Int) := by omega
    have hc : chk l = if namesF l l 0 = true then (if wtsF 4611686018427387903 l = true then 0 else 51) else 50 := by unfold chk; rw [if_neg hl]
    have HC := Lib.hid hc
    clear hc hl
    go_enter Tryz.func21, Tryz.ntmps21
    go_wp2
    go_loopw [18] (fun v18 wr => ∃ k : Nat, k ≤ l.length ∧ v18 = .int .i64 k ∧ Hid (Below w.heap.size w wr) ∧ Hid (namesF l (l.drop k) k = namesF l l 0)) (fun i _ => l.length - (intOf i).toNat)
    case atStart => exact ⟨0, Nat.zero_le _, rfl, Lib.hid (Below.refl _ _), Lib.hid rfl⟩
    case round =>
      obtain ⟨k, hk, rfl, HB, HF⟩ := hrel
      by_cases hlt : k < l.length
      · obtain ⟨b, off, hoa, hbb, hrow⟩ := H3.out (by omega)
        subst hoa
        have hs1 := hrow k hlt
        rw [← obj_below HB.out hbb] at hs1
        have hbl : b < wr.heap.size := Nat.lt_of_lt_of_le hbb HB.out.size
        have hF := HF.out
        rw [List.drop_eq_getElem_cons hlt] at hF
        generalize l[k] = x at *
        obtain ⟨xn, xw⟩ := x
        simp only [vdL] at hs1
        clear hrow
        rw [namesF_cons] at hF
        have HBA := Lib.hid (HB.out.alloc HB.out.size (.cells #[.string xn, .int .i64 xw] 38))
        have oz : obj (wr.alloc (.cells #[.string xn, .int .i64 xw] 38)) wr.heap.size = some (.cells #[.string xn, .int .i64 xw] 38 (0, 0)) := obj_alloc_at _ _ _ rfl
        have HN1 := Lib.hid (nameA xn (wr.alloc (.cells #[.string xn, .int .i64 xw] 38)))
        rcases nameE_cases xn with hn | hn
        · rw [hn] at HN1
          go_wp2_with fail
          generalize wr.alloc (.cells #[.string xn, .int .i64 xw] 38) = wa at *
          generalize wr.heap.size = x4 at *
          refine HN1.out.mono ?_
          rintro e wb ⟨rfl, bb⟩
          have ob := (obj_below bb (lt_of_obj oz)).trans oz
          have cb : wb.cell? ⟨x4, 0, none⟩ = some (.string xn) := cell_at ob 0
          have HB2 := Lib.hid (HBA.out.trans (bb.mono HBA.out.size))
          have HFI := Lib.hid (findA wb _ l xn (HS.out.below HB2.out))
          clear bb oz HN1
          by_cases hf : findI l xn = k
          · rw [if_pos ⟨hn, hf⟩] at hF
            rw [hf] at HFI
            have HG := Lib.hid hF
            clear hF HF hn hf
            go_wp2_with fail
            refine HFI.out.mono ?_
            rintro e wc ⟨rfl, bc⟩
            have HB3 := Lib.hid (HB2.out.trans (bc.mono HB2.out.size))
            clear bc
            go_wp2
            go_roundw
            case rel => exact ⟨k + 1, by omega, by go_num, HB3, HG⟩
            case measure => simp [intOf]; omega
          · rw [if_neg (fun h => hf h.2)] at hF
            have hc := Lib.hid (show chk l = 50 by rw [HC.out, if_neg (by rw [← hF]; simp)])
            have hf2 : (findI l xn == (k : Int)) = false := by simpa using hf
            generalize findI l xn = fi at *
            clear hF HF hn hf
            go_wp2_with fail
            refine HFI.out.mono ?_
            rintro e wc ⟨rfl, bc⟩
            have HB3 := Lib.hid (HB2.out.trans (bc.mono HB2.out.size))
            clear bc
            go_wp2
            go_ret
            exact ⟨ret_int hc.out.symm, HB3.out⟩
        · rw [hn] at HN1
          rw [if_neg (fun h => by rw [hn] at h; cases h.1)] at hF
          have hc := Lib.hid (show chk l = 50 by rw [HC.out, if_neg (by rw [← hF]; simp)])
          clear hF HF hn
          go_wp2_with fail
          refine HN1.out.mono ?_
          rintro e wb ⟨rfl, bb⟩
          have HB2 := Lib.hid (HBA.out.trans (bb.mono HBA.out.size))
          clear bb oz HN1
          go_wp2
          go_ret
          exact ⟨ret_int hc.out.symm, HB2.out⟩
      · have hF := HF.out
        rw [List.drop_eq_nil_of_le (by omega)] at hF
        have hc : chk l = if wtsF 4611686018427387903 l = true then 0 else 51 := by rw [HC.out, if_pos (by rw [← hF]; rfl)]
        have HC2 := Lib.hid hc
        have HB1 := Lib.hid HB.out
        clear hF HF hc HC HB
        have hmx : (4611686018427387903 : Int) ≤ 4611686018427387903 := Int.le_refl _
        go_wp2
        generalize wr = w1 at *
        go_loopw [5, 38] (fun v5 v38 wr => ∃ (k : Nat) (left : Int), k ≤ l.length ∧ v38 = .int .i64 k ∧ v5 = .int .i64 left ∧ 0 ≤ left ∧ left ≤ 4611686018427387903 ∧ Hid (Below w.heap.size w wr) ∧ Hid (wtsF left (l.drop k) = wtsF 4611686018427387903 l)) (fun _ i _ => l.length - (intOf i).toNat)
        case atStart => exact ⟨0, 4611686018427387903, Nat.zero_le _, rfl, rfl, by decide, Int.le_refl _, HB1, Lib.hid rfl⟩
        case round =>
          obtain ⟨k, left, hk, rfl, rfl, hl0, hlm, HB, HF⟩ := hrel
          by_cases hlt : k < l.length
          · obtain ⟨b, off, hoa, hbb, hrow⟩ := H3.out (by omega)
            subst hoa
            have hs1 := hrow k hlt
            rw [← obj_below HB.out hbb] at hs1
            have hbl : b < wr.heap.size := Nat.lt_of_lt_of_le hbb HB.out.size
            have hF := HF.out
            rw [List.drop_eq_getElem_cons hlt] at hF
            generalize l[k] = x at *
            obtain ⟨xn, xw⟩ := x
            simp only [vdL] at hs1
            clear hrow
            rw [wtsF_cons] at hF
            have HBA := Lib.hid (HB.out.alloc HB.out.size (.cells #[.string xn, .int .i64 xw] 38))
            by_cases hb1 : xw < 1
            · rw [if_pos (.inl hb1)] at hF
              have hc := Lib.hid (show chk l = 51 by rw [HC2.out, if_neg (by rw [← hF]; simp)])
              clear hF HF
              go_wp2
              go_ret
              exact ⟨ret_int hc.out.symm, HBA.out⟩
            · by_cases hb2 : left < xw
              · rw [if_pos (.inr hb2)] at hF
                have hc := Lib.hid (show chk l = 51 by rw [HC2.out, if_neg (by rw [← hF]; simp)])
                clear hF HF
                go_wp2
                go_ret
                exact ⟨ret_int hc.out.symm, HBA.out⟩
              · rw [if_neg (fun h => h.elim hb1 hb2)] at hF
                have HG := Lib.hid hF
                clear hF HF
                go_wp2
                go_roundw
                case rel => exact ⟨k + 1, left - xw, by omega, by go_num, by go_num, by omega, by omega, HBA, HG⟩
                case measure => simp [intOf]; omega
          · have hF := HF.out
            rw [List.drop_eq_nil_of_le (by omega)] at hF
            have hc := Lib.hid (show chk l = 0 by rw [HC2.out, if_pos (by rw [← hF]; rfl)])
            clear hF HF
            go_wp2
            go_ret
            exact ⟨ret_int hc.out.symm, HB.out⟩
end Go.Proofs.YtagpclgappcnbaaGreat.Be
namespace Go.Proofs.YtagpclgappcnbaaGreat.Be
open Go.RowKit

set_option maxRecDepth 100000 in
set_option maxHeartbeats 1000000 in
/-- flurryref05.Check -/
theorem checkB (w : World) (v : Value) (l : List Vd) (h : SlIn w v 2 vdL l) (hN : ∀ x ∈ l, x.name.size ≤ 300) : Calls Tryz.prog 26 #[v] w fun e w' => e = .returned (.int .i64 (chk l)) ∧ Below w.heap.size w w' := by
  have HS := Lib.hid h
  have HNN := Lib.hid hN
  obtain ⟨oa, cap, rfl, g1, g2, g3⟩ := h
  unfold maxLen at g2
  have H3 := Lib.hid g3
  clear g3 hN
  by_cases hl : l.length < 1 ∨ 32 < l.length
  · have hc : chk l = 3 := by unfold chk; rw [if_pos hl]
    rw [hc]
    have hl' : (l.length : Int) < 1 ∨ (32 : Int) < (l.length : Int) := by omega
    clear hl hc H3 HS
    rcases hl' with hl' | hl'
    · go_enter Tryz.func26, Tryz.ntmps26
      go_wp2
      go_ret
      exact ⟨rfl, Below.refl _ _⟩
    · have hl2 : ¬ (l.length : Int) < 1 := by omega
      go_enter Tryz.func26, Tryz.ntmps26
      go_wp2
      go_ret
      exact ⟨rfl, Below.refl _ _⟩
  · have hl1 : ¬ (l.length : Int) < 1 := by omega
    have hl2 : ¬ (32 : Int) < (l.length : Int) := by omega
    have hc : chk l = if namesF l l 0 = true then (if wtsF 4611686018427387903 l = true then 0 else 51) else 50 := by unfold chk; rw [if_neg hl]
    have HC := Lib.hid hc
    clear hc hl
    go_enter Tryz.func26, Tryz.ntmps26
    go_wp2
    go_loopw [3] (fun v18 wr => ∃ k : Nat, k ≤ l.length ∧ v18 = .int .i64 k ∧ Hid (Below w.heap.size w wr) ∧ Hid (namesF l (l.drop k) k = namesF l l 0)) (fun i _ => l.length - (intOf i).toNat)
    case atStart => exact ⟨0, Nat.zero_le _, rfl, Lib.hid (Below.refl _ _), Lib.hid rfl⟩
    case round =>
      obtain ⟨k, hk, rfl, HB, HF⟩ := hrel
      by_cases hlt : k < l.length
      · obtain ⟨b, off, hoa, hbb, hrow⟩ := H3.out (by omega)
        subst hoa
        have hs1 := hrow k hlt
        rw [← obj_below HB.out hbb] at hs1
        have hbl : b < wr.heap.size := Nat.lt_of_lt_of_le hbb HB.out.size
        have hF := HF.out
        have hsz := HNN.out l[k] (List.getElem_mem hlt)
        rw [List.drop_eq_getElem_cons hlt] at hF
        generalize l[k] = x at *
        obtain ⟨xn, xw⟩ := x
        simp only [vdL] at hs1
        clear hrow
        rw [namesF_cons] at hF
        have c0 : wr.cell? ⟨b, off + k * 2, none⟩ = some (.string xn) := by have := subOf_cell hs1 (j := 0) (by decide); simpa using this
        have HN1 := Lib.hid (nameB xn (by simp only at hsz; omega) wr)
        rcases nameE_cases xn with hn | hn
        · rw [hn] at HN1
          clear hs1
          go_wp2_with fail
          refine HN1.out.mono ?_
          rintro e wb ⟨rfl, bb⟩
          have cb : wb.cell? ⟨b, off + k * 2, none⟩ = some (.string xn) := (World.cell?_of_block (w := wr) (a := ⟨b, off + k * 2, none⟩) (obj_below bb hbl)).trans c0
          have HB2 := Lib.hid (HB.out.trans (bb.mono HB.out.size))
          have HFI := Lib.hid (findB wb _ l xn (HS.out.below HB2.out))
          clear bb HN1
          by_cases hf : findI l xn = k
          · rw [if_pos ⟨hn, hf⟩] at hF
            rw [hf] at HFI
            have HG := Lib.hid hF
            clear hF HF hn hf
            go_wp2_with fail
            refine HFI.out.mono ?_
            rintro e wc ⟨rfl, rfl⟩
            go_wp2
            go_roundw
            case rel => exact ⟨k + 1, by omega, by go_num, HB2, HG⟩
            case measure => simp [intOf]; omega
          · rw [if_neg (fun h => hf h.2)] at hF
            have hc := Lib.hid (show chk l = 50 by rw [HC.out, if_neg (by rw [← hF]; simp)])
            have hf2 : (findI l xn == (k : Int)) = false := by simpa using hf
            generalize findI l xn = fi at *
            clear hF HF hn hf
            go_wp2_with fail
            refine HFI.out.mono ?_
            rintro e wc ⟨rfl, rfl⟩
            go_wp2
            go_ret
            exact ⟨ret_int hc.out.symm, HB2.out⟩
        · rw [hn] at HN1
          rw [if_neg (fun h => by rw [hn] at h; cases h.1)] at hF
          have hc := Lib.hid (show chk l = 50 by rw [HC.out, if_neg (by rw [← hF]; simp)])
          clear hF HF hn
          go_wp2_with fail
          refine HN1.out.mono ?_
          rintro e wb ⟨rfl, bb⟩
          have HB2 := Lib.hid (HB.out.trans (bb.mono HB.out.size))
          clear bb HN1
          go_wp2
          go_ret
          exact ⟨ret_int hc.out.symm, HB2.out⟩
      · have hF := HF.out
        rw [List.drop_eq_nil_of_le (by omega)] at hF
        have hc : chk l = if wtsF 4611686018427387903 l = true then 0 else 51 := by rw [HC.out, if_pos (by rw [← hF]; rfl)]
        have HC2 := Lib.hid hc
        have HB1 := Lib.hid HB.out
        clear hF HF hc HC HB
        go_wp2
        generalize wr = w1 at *
        go_loopw [4, 5] (fun v5 v38 wr => ∃ (k : Nat) (left : Int), k ≤ l.length ∧ v38 = .int .i64 k ∧ v5 = .int .i64 left ∧ 0 ≤ left ∧ left ≤ 4611686018427387903 ∧ w1 = wr ∧ Hid (wtsF left (l.drop k) = wtsF 4611686018427387903 l)) (fun _ i _ => l.length - (intOf i).toNat)
        case atStart => exact ⟨0, 4611686018427387903, Nat.zero_le _, rfl, rfl, by decide, Int.le_refl _, rfl, Lib.hid rfl⟩
        case round =>
          obtain ⟨k, left, hk, rfl, rfl, hl0, hlm, rfl, HF⟩ := hrel
          by_cases hlt : k < l.length
          · obtain ⟨b, off, hoa, hbb, hrow⟩ := H3.out (by omega)
            subst hoa
            have hs1 := hrow k hlt
            rw [← obj_below HB1.out hbb] at hs1
            have hF := HF.out
            rw [List.drop_eq_getElem_cons hlt] at hF
            generalize l[k] = x at *
            obtain ⟨xn, xw⟩ := x
            simp only [vdL] at hs1
            clear hrow
            rw [wtsF_cons] at hF
            have c1 : w1.cell? ⟨b, off + k * 2 + 1, none⟩ = some (.int .i64 xw) := by have := subOf_cell hs1 (j := 1) (by decide); simpa using this
            clear hs1
            by_cases hb1 : xw < 1
            · rw [if_pos (.inl hb1)] at hF
              have hc := Lib.hid (show chk l = 51 by rw [HC2.out, if_neg (by rw [← hF]; simp)])
              clear hF HF
              go_wp2
              go_ret
              exact ⟨ret_int hc.out.symm, HB1.out⟩
            · by_cases hb2 : left < xw
              · rw [if_pos (.inr hb2)] at hF
                have hc := Lib.hid (show chk l = 51 by rw [HC2.out, if_neg (by rw [← hF]; simp)])
                clear hF HF
                go_wp2
                go_ret
                exact ⟨ret_int hc.out.symm, HB1.out⟩
              · rw [if_neg (fun h => h.elim hb1 hb2)] at hF
                have HG := Lib.hid hF
                clear hF HF
                go_wp2
                go_roundw
                case rel => exact ⟨k + 1, left - xw, by omega, by go_num, by go_num, by omega, by omega, by first | rfl | trivial, HG⟩
                case measure => simp [intOf]; omega
          · have hF := HF.out
            rw [List.drop_eq_nil_of_le (by omega)] at hF
            have hc := Lib.hid (show chk l = 0 by rw [HC2.out, if_pos (by rw [← hF]; rfl)])
            clear hF HF
            go_wp2
            go_ret
            exact ⟨ret_int hc.out.symm, HB1.out⟩

/-! ### totals -/
def sumW : List Vd → Int
  | [] => 0
  | x :: r => x.wt + sumW r
theorem wtsF_sum : ∀ (l : List Vd) (left : Int), wtsF left l = true → 0 ≤ left → 0 ≤ sumW l ∧ sumW l ≤ left ∧ ∀ x ∈ l, 1 ≤ x.wt := by
  intro l
  induction l with
  | nil => intro left _ h; exact ⟨Int.le_refl _, h, fun x hx => by cases hx⟩
  | cons x r ih =>
    intro left h h0
    rw [wtsF_cons] at h
    split at h
    · cases h
    · rename_i hn
      obtain ⟨a, b, c⟩ := ih _ h (by omega)
      refine ⟨by simp only [sumW]; omega, by simp only [sumW]; omega, fun y hy => ?_⟩
      rcases List.mem_cons.1 hy with rfl | hy
      · omega
      · exact c y hy
def tot (l : List Vd) : Int := if chk l = 0 then sumW l else 0
theorem chk_cases (l : List Vd) : chk l = 0 ∨ (chk l == 0) = false := by
  by_cases h : chk l = 0
  · exact .inl h
  · exact .inr (by simpa using h)
theorem sumW_drop (l : List Vd) (k : Nat) (h : ∀ x ∈ l, 1 ≤ x.wt) : 0 ≤ sumW (l.drop k) := by
  have : ∀ r : List Vd, (∀ x ∈ r, 1 ≤ x.wt) → 0 ≤ sumW r := by
    intro r
    induction r with
    | nil => intro _; exact Int.le_refl _
    | cons x r ih => intro hh; have := ih (fun y hy => hh y (List.mem_cons_of_mem _ hy)); have := hh x (List.mem_cons_self ..); simp only [sumW]; omega
  exact this _ fun x hx => h x (List.mem_of_mem_drop hx)
set_option maxRecDepth 100000 in
set_option maxHeartbeats 1000000 in
/-- vdr.Total -/
theorem totalA (w : World) (v : Value) (l : List Vd) (h : SlIn w v 2 vdL l) : Calls Tryz.prog 108 #[v] w fun e w' => e = .returned (.int .i64 (tot l)) ∧ Below w.heap.size w w' := by
  have HK := Lib.hid (checkA w v l h)
  obtain ⟨oa, cap, rfl, g1, g2, g3⟩ := h
  unfold maxLen at g2
  have H3 := Lib.hid g3
  clear g3
  rcases chk_cases l with hc | hc
  · rw [hc] at HK
    obtain ⟨_, _, _, hw⟩ := chk_32 hc
    obtain ⟨s0, s1, s2⟩ := wtsF_sum _ _ hw (by decide)
    have HT := Lib.hid (show tot l = sumW l from if_pos hc)
    have HD := Lib.hid (fun k => sumW_drop l k s2)
    have hS : 0 ≤ sumW l ∧ sumW l ≤ 4611686018427387903 := ⟨s0, s1⟩
    have HM := Lib.hid s2
    clear hc hw s2 s0 s1
    go_enter Tryz.func108, Tryz.ntmps108
    go_wp2_with fail
    refine HK.out.mono ?_
    rintro e w1 ⟨rfl, b1⟩
    have B1 := Lib.hid b1
    clear b1
    go_wp2
    go_loopw [3, 11] (fun v3 v9 wr => ∃ (k : Nat) (n : Int), k ≤ l.length ∧ v9 = .int .i64 k ∧ v3 = .int .i64 n ∧ 0 ≤ n ∧ n ≤ 4611686018427387903 ∧ Hid (Below w.heap.size w wr) ∧ Hid (n + sumW (l.drop k) = sumW l)) (fun _ i _ => l.length - (intOf i).toNat)
    case atStart => exact ⟨0, 0, Nat.zero_le _, rfl, rfl, by decide, by decide, B1, Lib.hid (by simp)⟩
    case round =>
      obtain ⟨k, n, hk, rfl, rfl, hn0, hn1, HB, HF⟩ := hrel
      by_cases hlt : k < l.length
      · obtain ⟨b, off, hoa, hbb, hrow⟩ := H3.out (by omega)
        subst hoa
        have hs1 := hrow k hlt
        rw [← obj_below HB.out hbb] at hs1
        have hbl : b < wr.heap.size := Nat.lt_of_lt_of_le hbb HB.out.size
        have hF := HF.out
        have hd := HD.out (k + 1)
        have hm := HM.out l[k] (List.getElem_mem hlt)
        rw [List.drop_eq_getElem_cons hlt] at hF
        generalize l[k] = x at *
        obtain ⟨xn, xw⟩ := x
        simp only [vdL] at hs1
        simp only [sumW] at hF hm
        have HG : Hid (n + xw + sumW (l.drop (k + 1)) = sumW l) := Lib.hid (by omega)
        have hx1 : n + xw ≤ 4611686018427387903 := by omega
        have HBA := Lib.hid (HB.out.alloc HB.out.size (.cells #[.string xn, .int .i64 xw] 38))
        clear hrow hF HF hd
        go_wp2
        go_roundw
        case rel => exact ⟨k + 1, n + xw, by omega, by go_num, by go_num, by omega, hx1, HBA, HG⟩
        case measure => simp [intOf]; omega
      · have hF := HF.out
        rw [List.drop_eq_nil_of_le (by omega)] at hF
        simp only [sumW, Int.add_zero] at hF
        have HG := Lib.hid (hF.trans HT.out.symm)
        clear hF HF
        go_wp2
        go_ret
        exact ⟨ret_int HG.out, HB.out⟩
  · have HT := Lib.hid (show tot l = 0 from if_neg (by simpa using hc))
    generalize chk l = c at *
    go_enter Tryz.func108, Tryz.ntmps108
    go_wp2_with fail
    refine HK.out.mono ?_
    rintro e w1 ⟨rfl, b1⟩
    go_wp2
    go_ret
    exact ⟨ret_int HT.out.symm, b1⟩
end Go.Proofs.YtagpclgappcnbaaGreat.Be
