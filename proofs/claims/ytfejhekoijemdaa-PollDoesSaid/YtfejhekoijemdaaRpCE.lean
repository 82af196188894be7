import Derived.Test.YtfejhekoijemdaaRpAB
import Derived.Test.YtfejhekoijemdaaFindS
namespace Go.Proofs.Ytfejhekoijemdaa
open Go.RowKit

/-! ### IsDone, Find, Left, Waits -/
set_option maxRecDepth 100000 in
set_option maxHeartbeats 4000000 in
theorem rdone_any (w : World) (G : Nat → Prop) (rb : Nat) (lv : Value) (ps : List PB) (S : SetM) (R : List (List Int)) (q : PB) (o : OneM) (sl : List Int) (hS : RSetW w G rb lv ps S R) (h : RPollW w G q o sl) (hr : RelO o sl) (ok : OneOK o) : Calls Try.prog 45 #[.pointer (some ⟨rb, 0, none⟩), .pointer (some ⟨q.p, 0, none⟩)] w fun e w' => e = .returned (.bool (isDone S o)) ∧ w' = w := by
  obtain ⟨b0, b1, -, -⟩ := hS.cells
  obtain ⟨-, -, -, c3⟩ := h.cells
  have HL := Lib.hid (rleft_any w G q o sl h hr ok)
  have lrb := hS.lt
  have lq := lt_of_obj h.box
  obtain ⟨oa, cap, e, g1, g2, g3⟩ := h.vt.slIn vtL_length
  rw [e] at c3
  have H3 := Lib.hid g3
  unfold maxLen at g2
  have h1 := ok.left0
  have h3 := ok.sum0
  have h4 := ok.tot
  have h5 := ok.hi
  have hvl := ok.len
  have HTK := Lib.hid (fun k (hk : k < o.votes.length) => sumN_tk hk)
  have HTP := Lib.hid (fun k => sumN_take ok.vpos k)
  have HMK := Lib.hid (fun k (hk : k < o.votes.length) => mxF_take hk)
  have HML := Lib.hid (fun k => mxF_le (l := o.votes.take k) (fun x hx => ok.vpos x (List.mem_of_mem_take hx)) (b := 0) (Int.le_refl _))
  have HDN : Hid (isDone S o = decide (o.left = 0 ∨ sumN o.votes + o.left < S.pref ∨ S.conf ≤ mxF 0 o.votes ∨ (S.pref ≤ mxF 0 o.votes ∧ mxF 0 o.votes + o.left < S.conf))) := Lib.hid (by unfold isDone; rw [ok.totV, mostN_eq ok])
  generalize isDone S o = D at *
  clear h hr ok hS g3 e
  generalize o.votes = vs at *
  generalize o.left = L at *
  generalize o.slots = sN at *
  generalize S.pref = pref at *
  generalize S.conf = conf at *
  go_enter Try.func45, Try.ntmps45
  go_wp2_with fail
  go_loopw [5, 6, 7] (fun v5 v6 v7 wr => ∃ k : Nat, k ≤ vs.length ∧ v7 = .int .i64 k ∧ v5 = .int .i64 (sumN (vs.take k)) ∧ v6 = .int .i64 (mxF 0 (vs.take k)) ∧ wr = w) (fun _ _ i _ => vs.length - (intOf i).toNat)
  case atStart => exact ⟨0, Nat.zero_le _, rfl, rfl, rfl, rfl⟩
  case round =>
    obtain ⟨k, hk, rfl, rfl, rfl, rfl⟩ := hrel
    by_cases hlt : k < vs.length
    · obtain ⟨b, off, rfl, hbb, hrow⟩ := H3.out (by omega)
      have hs := hrow k hlt
      have ht := HTK.out k hlt
      have hm := HMK.out k hlt
      have hp1 := HTP.out k
      have hp2 := HTP.out (k + 1)
      have HM2 := Lib.hid hm
      clear hrow hm
      obtain ⟨_, p2⟩ := vt_parts (x := vs[k]) (W := wr) (b := b) (o := off + k * 33) hs
      have hkl : (k : Int) < vs.length := by omega
      have hk64 : k ≤ 64 := by omega
      generalize vs[k] = x at *
      have hw : IntKind.i64.wrap (sumN (vs.take k) + x.n) = sumN (vs.take (k + 1)) := by rw [ht]; simp [IntKind.wrap, IntKind.signed, IntKind.bits]; omega
      have hmk : Hid (max (mxF 0 (vs.take k)) x.n = mxF 0 (vs.take (k + 1))) := Lib.hid HM2.out.symm
      clear hs ht hp1 hp2 HM2
      go_wp2_with fail
      go_roundw
      case rel => exact ⟨k + 1, by omega, by go_num, rfl, by rw [← hmk.out], trivial⟩
      case measure => simp [intOf]; omega
    · obtain rfl : vs.length = k := by omega
      have hk2 : ¬ (vs.length : Int) < vs.length := by omega
      have hml := HML.out vs.length
      have hsl := HTP.out vs.length
      rw [List.take_length] at hml hsl ⊢
      clear HTK HTP HMK HML H3
      generalize sumN vs = T at *
      generalize mxF 0 vs = X at *
      have w1 : IntKind.i64.wrap (T + L) = T + L := by simp [IntKind.wrap, IntKind.signed, IntKind.bits]; omega
      have w2 : IntKind.i64.wrap (X + L) = X + L := by simp [IntKind.wrap, IntKind.signed, IntKind.bits]; omega
      clear hml hsl h1 h3 h4 h5 hvl
      by_cases d0 : L = 0
      · subst d0
        have RR : Hid (D = true) := Lib.hid (by rw [HDN.out]; simp [true_or])
        clear HDN
        go_wp2_with fail
        refine HL.out.mono ?_
        rintro e w2 ⟨rfl, hw2⟩
        cases hw2
        go_wp2_with fail
        go_ret
        exact ⟨ret_bool RR.out.symm, rfl⟩
      by_cases d1 : T + L < pref
      · have RR : Hid (D = true) := Lib.hid (by rw [HDN.out]; simp [d1])
        clear HDN
        go_wp2_with fail
        refine HL.out.mono ?_
        rintro e w2 ⟨rfl, hw2⟩
        cases hw2
        go_wp2_with fail
        go_ret
        exact ⟨ret_bool RR.out.symm, rfl⟩
      by_cases d2 : conf ≤ X
      · have RR : Hid (D = true) := Lib.hid (by rw [HDN.out]; simp [d2])
        clear HDN
        go_wp2_with fail
        refine HL.out.mono ?_
        rintro e w2 ⟨rfl, hw2⟩
        cases hw2
        go_wp2_with fail
        go_ret
        exact ⟨ret_bool RR.out.symm, rfl⟩
      by_cases d3 : pref ≤ X
      case neg =>
        have RR : Hid (D = false) := Lib.hid (by rw [HDN.out]; simp [d0, d1, d2, d3])
        clear HDN
        go_wp2_with fail
        refine HL.out.mono ?_
        rintro e w2 ⟨rfl, hw2⟩
        cases hw2
        go_wp2_with fail
        go_ret
        exact ⟨ret_bool (by rw [RR.out]; simp [d0, d1, d2]), rfl⟩
      by_cases d4 : X + L < conf
      · have RR : Hid (D = true) := Lib.hid (by rw [HDN.out]; simp [d3, d4])
        clear HDN
        go_wp2_with fail
        refine HL.out.mono ?_
        rintro e w2 ⟨rfl, hw2⟩
        cases hw2
        go_wp2_with fail
        go_ret
        exact ⟨ret_bool RR.out.symm, rfl⟩
      · have RR : Hid (D = false) := Lib.hid (by rw [HDN.out]; simp [d0, d1, d2, d4])
        clear HDN
        go_wp2_with fail
        refine HL.out.mono ?_
        rintro e w2 ⟨rfl, hw2⟩
        cases hw2
        go_wp2_with fail
        go_ret
        exact ⟨ret_bool (by rw [RR.out]; simp [d0, d1, d2, d4]), rfl⟩
end Go.Proofs.Ytfejhekoijemdaa
namespace Go.Proofs.Ytfejhekoijemdaa
open Go.RowKit

/-- a poll's place -/
def ptrQ (ps : List PB) : Option Nat → Option Addr
  | none => none
  | some i => (ps[i]?).map fun q => ⟨q.p, 0, none⟩
set_option maxRecDepth 100000 in
set_option maxHeartbeats 4000000 in
theorem rfind_any (w : World) (G : Nat → Prop) (rb : Nat) (lv : Value) (ps : List PB) (S : SetM) (R : List (List Int)) (n : Int) (hS : RSetW w G rb lv ps S R) (hlen : ps.length ≤ 100000) : Calls Try.prog 58 #[.pointer (some ⟨rb, 0, none⟩), .int .i64 n] w fun e w' => e = .returned (.pointer (ptrQ ps (findI n S.l))) ∧ w' = w := by
  obtain ⟨-, -, b2, -⟩ := hS.cells
  have lrb := hS.lt
  obtain ⟨oa, cap, rfl, g1, g2, g3⟩ := hS.row
  have H3 := Lib.hid g3
  have HID := Lib.hid (show ∀ (k : Nat) (hk : k < ps.length) (hk2 : k < S.l.length), w.cell? ⟨ps[k].p, 0, none⟩ = some (.int .i64 S.l[k].id) ∧ ps[k].p < w.heap.size from fun k hk hk2 => by
    have hk3 : k < R.length := by rw [hS.lenR]; exact hk2
    have := hS.one k ps[k] S.l[k] R[k] (List.getElem?_eq_getElem hk) (List.getElem?_eq_getElem hk2) (List.getElem?_eq_getElem hk3)
    exact ⟨this.cells.1, lt_of_obj this.box⟩)
  have hls := hS.len
  have HLS := Lib.hid hls
  unfold maxLen at g2
  clear hS g3 hls
  go_enter Try.func58, Try.ntmps58
  go_wp2_with fail
  go_loopw [5] (fun v5 wr => ∃ k : Nat, k ≤ ps.length ∧ v5 = .int .i64 k ∧ Hid (∀ (j : Nat) (h1 : j < S.l.length), j < k → S.l[j].id ≠ n) ∧ wr = w) (fun i _ => ps.length - (intOf i).toNat)
  case atStart => exact ⟨0, Nat.zero_le _, rfl, Lib.hid (by omega), rfl⟩
  case round =>
    obtain ⟨k, hk, rfl, HK, rfl⟩ := hrel
    by_cases hlt : k < ps.length
    · obtain ⟨b, off, rfl, hbb, hrow⟩ := H3.out (by omega)
      have hs := hrow k hlt
      have hk2 : k < S.l.length := by rw [← HLS.out]; exact hlt
      obtain ⟨cid, lid⟩ := HID.out k hlt hk2
      have c0 : wr.cell? ⟨b, off + k, none⟩ = some (.pointer (some ⟨ps[k].p, 0, none⟩)) := by have := subOf_cell hs (j := 0) (by decide); simpa [qL] using this
      have hit : Hid (S.l[k].id = n → findI n S.l = some k) := Lib.hid (fun h => findI_hit hk2 HK.out h)
      have nx : Hid (S.l[k].id ≠ n → ∀ (j : Nat) (h1 : j < S.l.length), j < k + 1 → S.l[j].id ≠ n) := Lib.hid (fun h j h1 hj => by
        by_cases e : j = k
        · subst e; exact h
        · exact HK.out j h1 (by omega))
      have HPQ : Hid (ptrQ ps (some k) = some ⟨ps[k].p, 0, none⟩) := Lib.hid (by show (ps[k]?).map _ = _; rw [List.getElem?_eq_getElem hlt]; rfl)
      clear hrow hs
      generalize ps[k] = q at *
      generalize S.l[k].id = id at *
      have hki : (k : Int) < ps.length := by omega
      by_cases hid : id = n
      · have HR := Lib.hid (hit.out hid)
        subst hid
        clear hit nx HK
        go_wp2_with fail
        go_ret
        exact ⟨by rw [HR.out, HPQ.out]; rfl, rfl⟩
      · have HN := Lib.hid (nx.out hid)
        have hid' : (id == n) = false := by simpa using hid
        clear hit nx HK
        go_wp2_with fail
        go_roundw
        case rel => exact ⟨k + 1, by omega, by go_num, HN, trivial⟩
        case measure => simp [intOf]; omega
    · have hE : Hid (findI n S.l = none) := Lib.hid (findI_miss fun j hj => HK.out j hj (by have := HLS.out; omega))
      have hk2 : ¬ (k : Int) < ps.length := by omega
      go_wp2_with fail
      go_ret
      exact ⟨by rw [hE.out]; rfl, rfl⟩
end Go.Proofs.Ytfejhekoijemdaa
