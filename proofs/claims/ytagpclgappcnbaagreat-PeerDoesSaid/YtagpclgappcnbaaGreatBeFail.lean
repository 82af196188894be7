import Derived.Test.YtagpclgappcnbaaGreatBeL
import Derived.BigRegion
namespace Go.Proofs.YtagpclgappcnbaaGreat.Be
open Go.RowKit

theorem keeps_putNew {F : Nat → Prop} {w w' : World} (h : Keeps F w w') {m : Nat} (hm : w.heap.size ≤ m) (o : Obj) : Keeps F w (putObj w' m o) :=
  ⟨h.os, h.tape, h.output, by rw [size_putObj]; exact h.size, fun n hn hf => (obj_putObj_ne _ _ _ _ (by omega)).trans (h.block n hn hf)⟩
/-! ### a seat behind a failure -/
def nF (x : St) : Int := min (x.f + 1) 1000
def nS (x : St) (now : Int) : Int := if x.f = 0 then now else x.s
def stays (r : Rul) (x : St) (now : Int) (room : Bool) : Bool := decide (nF x < r.f) || decide (max (now - nS x now) 0 < r.lo) || !room
def nSeat (r : Rul) (x : St) (now : Int) (room : Bool) : St := if stays r x now room = true then ⟨nF x, nS x now, x.u⟩ else ⟨0, 0, now + min r.fo (4611686018427387903 - now)⟩
def FailPost (w : World) (s : List St) (i : Nat) (y : St) (cb : Nat) (ben : Bool) (g cap : Nat) (W' : World) : Prop :=
  OwnS W' w.heap.size 138 3 stL (.slice (some ⟨g, 0, none⟩) s.length cap) (s.set i y) ∧ obj W' cb = some (.cells #[.bool ben] 4 (0, 0)) ∧ Keeps (fun k => k = cb) w W'
set_option maxRecDepth 100000 in
set_option maxHeartbeats 8000000 in
theorem failed_cl (w : World) (s : List St) (i : Nat) (hi : i < s.length) (nb rb mb cb : Nat) (r : Rul) (now : Int) (room : Bool) (hr : ruleE r = 0) (hx : mayB s[i] = true) (hn0 : 0 ≤ now) (hn1 : now ≤ 4611686018427387903)
    (o1 : obj w nb = some (.cells #[.int .i64 now] 2 (0, 0))) (o2 : obj w rb = some (.cells (ruC r) 25 (0, 0))) (o3 : obj w mb = some (.cells #[.bool room] 4 (0, 0))) (o4 : obj w cb = some (.cells #[.bool false] 4 (0, 0)))
    (W : World) (g cap : Nat) (cur : Array Value) (hb : Below w.heap.size w W) (hg : w.heap.size ≤ g) (ho : obj W g = some (.cells cur 138 (0, 0))) (hc : cur.size = cap * 3) (h1 : s.length ≤ cap) (h2 : cap ≤ maxLen) (ht : cur.toList.take (s.length * 3) = s.flatMap stL) :
    Calls Tryz.prog 111 (#[.pointer (some ⟨g, i * 3, none⟩)] ++ #[.pointer (some ⟨nb, 0, none⟩), .pointer (some ⟨rb, 0, none⟩), .pointer (some ⟨mb, 0, none⟩), .pointer (some ⟨cb, 0, none⟩)]) W (fun e W' => (∃ u, e = .returned u) ∧ FailPost w s i (nSeat r s[i] now room) cb (!stays r s[i] now room) g cap W') := by
  have hz := lt_of_obj ho
  have f0 : ∀ j, W.frozen? ⟨g, j, none⟩ = false := frozen_at ho
  have c0 := cur_cell ho ht hi (r := 0) (by decide)
  have c1 := cur_cell ho ht hi (r := 1) (by decide)
  have c2 := cur_cell ho ht hi (r := 2) (by decide)
  have p1 := (obj_below hb (lt_of_obj o1)).trans o1
  have p2 := (obj_below hb (lt_of_obj o2)).trans o2
  have p3 := (obj_below hb (lt_of_obj o3)).trans o3
  have p4 := (obj_below hb (lt_of_obj o4)).trans o4
  have n1 : nb ≠ g := by have := lt_of_obj o1; omega
  have n2 : rb ≠ g := by have := lt_of_obj o2; omega
  have n3 : mb ≠ g := by have := lt_of_obj o3; omega
  have n4 : cb ≠ g := by have := lt_of_obj o4; omega
  generalize hX : s[i] = x at *
  obtain ⟨xf, xs, xu⟩ := x
  obtain ⟨rf, rlo, rfo, rnu, rde⟩ := r
  simp only [Nat.add_zero] at c0
  simp only [stL, List.getElem?_cons_zero, List.getElem?_cons_succ] at c0 c1 c2
  simp only [ruC] at p2 o2
  have hx' : 0 ≤ xf ∧ xf ≤ 1000 ∧ 0 ≤ xs ∧ xs ≤ 4611686018427387903 ∧ 0 ≤ xu ∧ xu ≤ 4611686018427387903 := by unfold mayB at hx; simp at hx; omega
  obtain ⟨x1, x2, x3, x4, x5, x6⟩ := hx'
  have hr' : 1 ≤ rf ∧ rf ≤ 1000 ∧ 0 ≤ rlo ∧ rlo ≤ 1099511627776 ∧ 1 ≤ rfo ∧ rfo ≤ 1099511627776 := by
    unfold ruleE at hr
    split at hr
    · cases hr
    · rename_i hh; simp only [not_or] at hh; omega
  obtain ⟨r1, r2, r3, r4, r5, r6⟩ := hr'
  have q1 : W.cell? ⟨nb, 0, none⟩ = some (.int .i64 now) := cell_at p1 0
  have HT := Lib.hid ht
  clear hx hr ht
  by_cases hf : xf = 0
  · subst hf
    simp only [List.append_toArray, List.cons_append, List.nil_append]
    go_enter Tryz.func111, Tryz.ntmps111
    go_wp2
    have hNF : nF ⟨0, xs, xu⟩ = 1 := by show min ((0 : Int) + 1) 1000 = 1; rfl
    have hNS : nS ⟨0, xs, xu⟩ now = now := by unfold nS; rfl
    have oc := obj_setCell_at (i := i * 3) (.int .i64 1) (obj_setCell_at (i := i * 3 + 1) (.int .i64 now) ho)
    have rt := row_upd (y := ⟨1, now, xu⟩) HT.out hi (by omega) (cur' := (cur.setIfInBounds (i * 3 + 1) (.int .i64 now)).setIfInBounds (i * 3) (.int .i64 1)) (by simp) (fun j j0 j1 j2 => by rw [Array.getElem?_setIfInBounds_ne (by omega), Array.getElem?_setIfInBounds_ne (by omega)]) (by rw [Array.getElem?_setIfInBounds_self_of_lt (by simp; omega)]) (by rw [Array.getElem?_setIfInBounds_ne (by omega), Array.getElem?_setIfInBounds_self_of_lt (by omega)]) (by rw [Array.getElem?_setIfInBounds_ne (by omega), Array.getElem?_setIfInBounds_ne (by omega)]; rw [cell_at ho] at c2; exact c2)
    have hc3 : ((cur.setIfInBounds (i * 3 + 1) (.int .i64 now)).setIfInBounds (i * 3) (.int .i64 1)).size = cap * 3 := by simpa using hc
    have hb3 : Below w.heap.size w ((W.setCell ⟨g, i * 3 + 1, none⟩ (.int .i64 now)).setCell ⟨g, i * 3, none⟩ (.int .i64 1)) := (hb.setCell hg _).setCell hg _
    generalize (cur.setIfInBounds (i * 3 + 1) (.int .i64 now)).setIfInBounds (i * 3) (.int .i64 1) = cur3 at *
    have u1 : obj ((W.setCell ⟨g, i * 3 + 1, none⟩ (.int .i64 now)).setCell ⟨g, i * 3, none⟩ (.int .i64 1)) _ = _ := (obj_setCell_ne _ ⟨g, i * 3, none⟩ _ _ n1).trans ((obj_setCell_ne _ ⟨g, i * 3 + 1, none⟩ _ _ n1).trans p1)
    have u2 : obj ((W.setCell ⟨g, i * 3 + 1, none⟩ (.int .i64 now)).setCell ⟨g, i * 3, none⟩ (.int .i64 1)) _ = _ := (obj_setCell_ne _ ⟨g, i * 3, none⟩ _ _ n2).trans ((obj_setCell_ne _ ⟨g, i * 3 + 1, none⟩ _ _ n2).trans p2)
    have u3 : obj ((W.setCell ⟨g, i * 3 + 1, none⟩ (.int .i64 now)).setCell ⟨g, i * 3, none⟩ (.int .i64 1)) _ = _ := (obj_setCell_ne _ ⟨g, i * 3, none⟩ _ _ n3).trans ((obj_setCell_ne _ ⟨g, i * 3 + 1, none⟩ _ _ n3).trans p3)
    have u4 : obj ((W.setCell ⟨g, i * 3 + 1, none⟩ (.int .i64 now)).setCell ⟨g, i * 3, none⟩ (.int .i64 1)) _ = _ := (obj_setCell_ne _ ⟨g, i * 3, none⟩ _ _ n4).trans ((obj_setCell_ne _ ⟨g, i * 3 + 1, none⟩ _ _ n4).trans p4)
    generalize ((W.setCell ⟨g, i * 3 + 1, none⟩ (.int .i64 now)).setCell ⟨g, i * 3, none⟩ (.int .i64 1)) = W3 at *
    clear p1 p2 p3 p4 o1 o2 o3 o4 c0 c1 c2 q1 f0 ho hc HT hz hb
    have hFF : 1 = nF ⟨0, xs, xu⟩ := hNF.symm
    have HV := Lib.hid (show stays ⟨rf, rlo, rfo, rnu, rde⟩ ⟨0, xs, xu⟩ now room = (decide (1 < rf) || decide (max (now - now) 0 < rlo) || !room) by unfold stays; rw [hNF, hNS])
    have HN := Lib.hid (show nSeat ⟨rf, rlo, rfo, rnu, rde⟩ ⟨0, xs, xu⟩ now room = if stays ⟨rf, rlo, rfo, rnu, rde⟩ ⟨0, xs, xu⟩ now room = true then ⟨1, now, xu⟩ else ⟨0, 0, now + min rfo (4611686018427387903 - now)⟩ by unfold nSeat; rw [hNF, hNS])
    obtain ⟨F, hF⟩ : ∃ F : Int, F = 1 := ⟨1, rfl⟩
    obtain ⟨S, hS⟩ : ∃ S : Int, S = now := ⟨now, rfl⟩
    have hS0 : 0 ≤ S ∧ S ≤ 4611686018427387903 := by omega
    have hrt : cur3.toList.take (s.length * 3) = (s.set i ⟨F, S, xu⟩).flatMap stL := by rw [hF, hS]; exact rt
    have HV2 := Lib.hid (show (stays ⟨rf, rlo, rfo, rnu, rde⟩ ⟨0, xs, xu⟩ now room) = (decide (F < rf) || decide (max (now - S) 0 < rlo) || !room) by rw [hF, hS]; exact HV.out)
    have HN2 := Lib.hid (show (nSeat ⟨rf, rlo, rfo, rnu, rde⟩ ⟨0, xs, xu⟩ now room) = if (stays ⟨rf, rlo, rfo, rnu, rde⟩ ⟨0, xs, xu⟩ now room) = true then ⟨F, S, xu⟩ else ⟨0, 0, now + min rfo (4611686018427387903 - now)⟩ by rw [hF, hS]; exact HN.out)
    clear hF hS rt HV HN hNF hNS hFF hX
    have hl3 : (s.set i ⟨F, S, xu⟩).length = s.length := List.length_set
    have e3 : (s.set i ⟨F, S, xu⟩)[i]'(by rw [hl3]; exact hi) = ⟨F, S, xu⟩ := by simp
    have d0 := cur_cell oc (by rw [hl3]; exact hrt) (by rw [hl3]; exact hi) (r := 0) (by decide)
    have d1 := cur_cell oc (by rw [hl3]; exact hrt) (by rw [hl3]; exact hi) (r := 1) (by decide)
    rw [e3] at d0 d1
    simp only [Nat.add_zero, stL, List.getElem?_cons_zero, List.getElem?_cons_succ] at d0 d1
    have v1 : W3.cell? ⟨nb, 0, none⟩ = some (.int .i64 now) := cell_at u1 0
    have v2 : W3.cell? ⟨rb, 0, none⟩ = some (.int .i64 rf) := cell_at u2 0
    have v3 : W3.cell? ⟨rb, 1, none⟩ = some (.int .i64 rlo) := cell_at u2 1
    have v4 : W3.cell? ⟨rb, 2, none⟩ = some (.int .i64 rfo) := cell_at u2 2
    have v5 : W3.cell? ⟨mb, 0, none⟩ = some (.bool room) := cell_at u3 0
    have nc1 : nb ≠ cb := fun e => by rw [e] at u1; rw [u1] at u4; cases u4
    have nc2 : rb ≠ cb := fun e => by rw [e] at u2; rw [u2] at u4; cases u4
    have nc3 : g ≠ cb := fun e => n4 e.symm
    have vc : W3.cell? ⟨cb, 0, none⟩ = some (.bool false) := cell_at u4 0
    have hz3 := lt_of_obj oc
    have hcb := lt_of_obj u4
    have fc : ∀ j, W3.frozen? ⟨cb, j, none⟩ = false := frozen_at u4
    have hcur : cur3.size = cap * 3 := hc3
    have hput : putOf (some (.cells cur3 138 (0, 0))) (i * 3) 3 #[.int .i64 0, .int .i64 0, .int .i64 (now + min rfo (4611686018427387903 - now))] = some (.cells (spliceA cur3 (i * 3) #[.int .i64 0, .int .i64 0, .int .i64 (now + min rfo (4611686018427387903 - now))]) 138 (0, 0)) := putOf_cells (by omega) rfl rfl
    have hwS : IntKind.i64.wrap (now - S) = now - S := by simp [IntKind.wrap, IntKind.signed, IntKind.bits]; omega
    have keep : ∀ n : Nat, Hid (FailPost w s i ⟨F, S, xu⟩ cb false g cap W3) := fun _ => Lib.hid ⟨(turnPost_of hi hg oc hc3 h1 h2 hrt hb3).1, u4, Keeps.of_below hb3⟩
    cases hA : decide (F < rf)
    · by_cases hM : now - S < 0
      · have hmx : max (now - S) 0 = 0 := by omega
        rw [hmx] at HV2
        clear hmx
        cases hB : decide ((0 : Int) < rlo)
        · cases room
          · have hst : (stays ⟨rf, rlo, rfo, rnu, rde⟩ ⟨0, xs, xu⟩ now false) = true := by rw [HV2.out]; simp
            have FIN : Hid (FailPost w s i (nSeat ⟨rf, rlo, rfo, rnu, rde⟩ ⟨0, xs, xu⟩ now false) cb (!(stays ⟨rf, rlo, rfo, rnu, rde⟩ ⟨0, xs, xu⟩ now false)) g cap W3.drew) := Lib.hid (by rw [HN2.out, hst, if_pos rfl]; exact ⟨(keep 0).out.1.drew, (obj_drew _ _).trans (keep 0).out.2.1, (keep 0).out.2.2.drew⟩)
            clear HN2 HV2 hst keep hrt oc hput
            go_region
            all_goals (go_wp2)
            all_goals (refine bodyPost_ret (results_none rfl _ _ _) rfl ?_; exact ⟨⟨_, rfl⟩, FIN.out⟩)
          · have hst : (stays ⟨rf, rlo, rfo, rnu, rde⟩ ⟨0, xs, xu⟩ now true) = false := by rw [HV2.out, hA, hB]; rfl
            by_cases hK : rfo ≤ 4611686018427387903 - now
            · have hmn : min rfo (4611686018427387903 - now) = rfo := by omega
              rw [hmn] at hput HN2
              have hK4 : IntKind.i64.wrap (4611686018427387903 - now) = 4611686018427387903 - now := by simp [IntKind.wrap, IntKind.signed, IntKind.bits]; omega
              have hK5 : IntKind.i64.wrap (now + rfo) = now + rfo := by simp [IntKind.wrap, IntKind.signed, IntKind.bits]; omega
              clear hmn
              have FIN : Hid (FailPost w s i (nSeat ⟨rf, rlo, rfo, rnu, rde⟩ ⟨0, xs, xu⟩ now true) cb (!(stays ⟨rf, rlo, rfo, rnu, rde⟩ ⟨0, xs, xu⟩ now true)) g cap ((putObj (W3.setCell ⟨cb, 0, none⟩ (.bool true)) g (.cells (spliceA cur3 (i * 3) #[.int .i64 0, .int .i64 0, .int .i64 (now + rfo)]) 138)).drew)) := Lib.hid (by
                show FailPost _ _ _ _ _ _ _ _ (putObj (W3.drew.setCell ⟨cb, 0, none⟩ (.bool true)) g (.cells (spliceA cur3 (i * 3) #[.int .i64 0, .int .i64 0, .int .i64 (now + rfo)]) 138))
                rw [HN2.out, hst, if_neg (by decide)]
                have hsz : (spliceA cur3 (i * 3) #[.int .i64 0, .int .i64 0, .int .i64 (now + rfo)]).size = cur3.size := size_spliceA (by simp; omega)
                have hrw := row_upd (y := ⟨0, 0, now + rfo⟩) (by rw [hl3]; exact hrt) (by rw [hl3]; exact hi) (by rw [hl3]; omega) hsz (fun j j0 j1 j2 => by rw [splice_get _ _ _ _ (by simp; omega), if_neg (by simp; omega)]) (by rw [splice_get _ _ _ _ (by simp; omega), if_pos (by simp)]; simp) (by rw [splice_get _ _ _ _ (by simp; omega), if_pos (by simp)]; simp) (by rw [splice_get _ _ _ _ (by simp; omega), if_pos (by simp)]; simp)
                rw [hl3, List.set_set] at hrw
                have hbig : Below w.heap.size w (putObj W3.drew g (.cells (spliceA cur3 (i * 3) #[.int .i64 0, .int .i64 0, .int .i64 (now + rfo)]) 138)) := below_putObj hb3.drew hg _
                have hgg : g < (W3.drew.setCell ⟨cb, 0, none⟩ (.bool true)).heap.size := by simpa using hz3
                have ng : g ≠ cb := fun e => n4 e.symm
                refine ⟨(turnPost_of (W' := putObj W3.drew g (.cells (spliceA cur3 (i * 3) #[.int .i64 0, .int .i64 0, .int .i64 (now + rfo)]) 138)) hi hg (obj_putObj_eq _ _ _ hz3) (hsz.trans hc3) h1 h2 hrw hbig).1.keeps (fun k hk => ?_), (obj_putObj_ne _ _ _ _ n4).trans (obj_setCell_at _ ((obj_drew _ _).trans u4)), ?_⟩
                · simp [Value.ownBlock] at hk; subst hk; rw [obj_putObj_eq _ _ _ hgg]; exact (obj_putObj_eq _ _ _ (show g < W3.drew.heap.size from hz3)).symm
                · exact keeps_putNew (((Keeps.of_below (F := fun k => k = cb) hb3).drew).setCell (a := ⟨cb, 0, none⟩) (.inl rfl) _) hg _)
              clear HN2 HV2 hst keep hrt
              go_region
              all_goals (go_wp2)
              all_goals (go_end0; exact ⟨⟨_, rfl⟩, FIN.out⟩)
            · have hmn : min rfo (4611686018427387903 - now) = (4611686018427387903 - now) := by omega
              rw [hmn] at hput HN2
              have hK2 : 4611686018427387903 - now < rfo := by omega
              have hK4 : IntKind.i64.wrap (4611686018427387903 - now) = 4611686018427387903 - now := by simp [IntKind.wrap, IntKind.signed, IntKind.bits]; omega
              have hK5 : IntKind.i64.wrap (now + (4611686018427387903 - now)) = now + (4611686018427387903 - now) := by simp [IntKind.wrap, IntKind.signed, IntKind.bits]; omega
              clear hmn
              have FIN : Hid (FailPost w s i (nSeat ⟨rf, rlo, rfo, rnu, rde⟩ ⟨0, xs, xu⟩ now true) cb (!(stays ⟨rf, rlo, rfo, rnu, rde⟩ ⟨0, xs, xu⟩ now true)) g cap ((putObj (W3.setCell ⟨cb, 0, none⟩ (.bool true)) g (.cells (spliceA cur3 (i * 3) #[.int .i64 0, .int .i64 0, .int .i64 (now + (4611686018427387903 - now))]) 138)).drew)) := Lib.hid (by
                show FailPost _ _ _ _ _ _ _ _ (putObj (W3.drew.setCell ⟨cb, 0, none⟩ (.bool true)) g (.cells (spliceA cur3 (i * 3) #[.int .i64 0, .int .i64 0, .int .i64 (now + (4611686018427387903 - now))]) 138))
                rw [HN2.out, hst, if_neg (by decide)]
                have hsz : (spliceA cur3 (i * 3) #[.int .i64 0, .int .i64 0, .int .i64 (now + (4611686018427387903 - now))]).size = cur3.size := size_spliceA (by simp; omega)
                have hrw := row_upd (y := ⟨0, 0, now + (4611686018427387903 - now)⟩) (by rw [hl3]; exact hrt) (by rw [hl3]; exact hi) (by rw [hl3]; omega) hsz (fun j j0 j1 j2 => by rw [splice_get _ _ _ _ (by simp; omega), if_neg (by simp; omega)]) (by rw [splice_get _ _ _ _ (by simp; omega), if_pos (by simp)]; simp) (by rw [splice_get _ _ _ _ (by simp; omega), if_pos (by simp)]; simp) (by rw [splice_get _ _ _ _ (by simp; omega), if_pos (by simp)]; simp)
                rw [hl3, List.set_set] at hrw
                have hbig : Below w.heap.size w (putObj W3.drew g (.cells (spliceA cur3 (i * 3) #[.int .i64 0, .int .i64 0, .int .i64 (now + (4611686018427387903 - now))]) 138)) := below_putObj hb3.drew hg _
                have hgg : g < (W3.drew.setCell ⟨cb, 0, none⟩ (.bool true)).heap.size := by simpa using hz3
                have ng : g ≠ cb := fun e => n4 e.symm
                refine ⟨(turnPost_of (W' := putObj W3.drew g (.cells (spliceA cur3 (i * 3) #[.int .i64 0, .int .i64 0, .int .i64 (now + (4611686018427387903 - now))]) 138)) hi hg (obj_putObj_eq _ _ _ hz3) (hsz.trans hc3) h1 h2 hrw hbig).1.keeps (fun k hk => ?_), (obj_putObj_ne _ _ _ _ n4).trans (obj_setCell_at _ ((obj_drew _ _).trans u4)), ?_⟩
                · simp [Value.ownBlock] at hk; subst hk; rw [obj_putObj_eq _ _ _ hgg]; exact (obj_putObj_eq _ _ _ (show g < W3.drew.heap.size from hz3)).symm
                · exact keeps_putNew (((Keeps.of_below (F := fun k => k = cb) hb3).drew).setCell (a := ⟨cb, 0, none⟩) (.inl rfl) _) hg _)
              clear HN2 HV2 hst keep hrt
              go_region
              all_goals (go_wp2)
              all_goals (go_end0; exact ⟨⟨_, rfl⟩, FIN.out⟩)
        · have hst : (stays ⟨rf, rlo, rfo, rnu, rde⟩ ⟨0, xs, xu⟩ now room) = true := by rw [HV2.out, hB]; simp
          have FIN : Hid (FailPost w s i (nSeat ⟨rf, rlo, rfo, rnu, rde⟩ ⟨0, xs, xu⟩ now room) cb (!(stays ⟨rf, rlo, rfo, rnu, rde⟩ ⟨0, xs, xu⟩ now room)) g cap W3.drew) := Lib.hid (by rw [HN2.out, hst, if_pos rfl]; exact ⟨(keep 0).out.1.drew, (obj_drew _ _).trans (keep 0).out.2.1, (keep 0).out.2.2.drew⟩)
          clear HN2 HV2 hst keep hrt oc hput
          go_region
          all_goals (go_wp2)
          all_goals (refine bodyPost_ret (results_none rfl _ _ _) rfl ?_; exact ⟨⟨_, rfl⟩, FIN.out⟩)
      · have hmx : max (now - S) 0 = now - S := by omega
        have hM3 : 0 ≤ now - S := by omega
        rw [hmx] at HV2
        clear hmx
        cases hB : decide ((now - S) < rlo)
        · cases room
          · have hst : (stays ⟨rf, rlo, rfo, rnu, rde⟩ ⟨0, xs, xu⟩ now false) = true := by rw [HV2.out]; simp
            have FIN : Hid (FailPost w s i (nSeat ⟨rf, rlo, rfo, rnu, rde⟩ ⟨0, xs, xu⟩ now false) cb (!(stays ⟨rf, rlo, rfo, rnu, rde⟩ ⟨0, xs, xu⟩ now false)) g cap W3.drew) := Lib.hid (by rw [HN2.out, hst, if_pos rfl]; exact ⟨(keep 0).out.1.drew, (obj_drew _ _).trans (keep 0).out.2.1, (keep 0).out.2.2.drew⟩)
            clear HN2 HV2 hst keep hrt oc hput
            go_region
            all_goals (go_wp2)
            all_goals (refine bodyPost_ret (results_none rfl _ _ _) rfl ?_; exact ⟨⟨_, rfl⟩, FIN.out⟩)
          · have hst : (stays ⟨rf, rlo, rfo, rnu, rde⟩ ⟨0, xs, xu⟩ now true) = false := by rw [HV2.out, hA, hB]; rfl
            by_cases hK : rfo ≤ 4611686018427387903 - now
            · have hmn : min rfo (4611686018427387903 - now) = rfo := by omega
              rw [hmn] at hput HN2
              have hK4 : IntKind.i64.wrap (4611686018427387903 - now) = 4611686018427387903 - now := by simp [IntKind.wrap, IntKind.signed, IntKind.bits]; omega
              have hK5 : IntKind.i64.wrap (now + rfo) = now + rfo := by simp [IntKind.wrap, IntKind.signed, IntKind.bits]; omega
              clear hmn
              have FIN : Hid (FailPost w s i (nSeat ⟨rf, rlo, rfo, rnu, rde⟩ ⟨0, xs, xu⟩ now true) cb (!(stays ⟨rf, rlo, rfo, rnu, rde⟩ ⟨0, xs, xu⟩ now true)) g cap ((putObj (W3.setCell ⟨cb, 0, none⟩ (.bool true)) g (.cells (spliceA cur3 (i * 3) #[.int .i64 0, .int .i64 0, .int .i64 (now + rfo)]) 138)).drew)) := Lib.hid (by
                show FailPost _ _ _ _ _ _ _ _ (putObj (W3.drew.setCell ⟨cb, 0, none⟩ (.bool true)) g (.cells (spliceA cur3 (i * 3) #[.int .i64 0, .int .i64 0, .int .i64 (now + rfo)]) 138))
                rw [HN2.out, hst, if_neg (by decide)]
                have hsz : (spliceA cur3 (i * 3) #[.int .i64 0, .int .i64 0, .int .i64 (now + rfo)]).size = cur3.size := size_spliceA (by simp; omega)
                have hrw := row_upd (y := ⟨0, 0, now + rfo⟩) (by rw [hl3]; exact hrt) (by rw [hl3]; exact hi) (by rw [hl3]; omega) hsz (fun j j0 j1 j2 => by rw [splice_get _ _ _ _ (by simp; omega), if_neg (by simp; omega)]) (by rw [splice_get _ _ _ _ (by simp; omega), if_pos (by simp)]; simp) (by rw [splice_get _ _ _ _ (by simp; omega), if_pos (by simp)]; simp) (by rw [splice_get _ _ _ _ (by simp; omega), if_pos (by simp)]; simp)
                rw [hl3, List.set_set] at hrw
                have hbig : Below w.heap.size w (putObj W3.drew g (.cells (spliceA cur3 (i * 3) #[.int .i64 0, .int .i64 0, .int .i64 (now + rfo)]) 138)) := below_putObj hb3.drew hg _
                have hgg : g < (W3.drew.setCell ⟨cb, 0, none⟩ (.bool true)).heap.size := by simpa using hz3
                have ng : g ≠ cb := fun e => n4 e.symm
                refine ⟨(turnPost_of (W' := putObj W3.drew g (.cells (spliceA cur3 (i * 3) #[.int .i64 0, .int .i64 0, .int .i64 (now + rfo)]) 138)) hi hg (obj_putObj_eq _ _ _ hz3) (hsz.trans hc3) h1 h2 hrw hbig).1.keeps (fun k hk => ?_), (obj_putObj_ne _ _ _ _ n4).trans (obj_setCell_at _ ((obj_drew _ _).trans u4)), ?_⟩
                · simp [Value.ownBlock] at hk; subst hk; rw [obj_putObj_eq _ _ _ hgg]; exact (obj_putObj_eq _ _ _ (show g < W3.drew.heap.size from hz3)).symm
                · exact keeps_putNew (((Keeps.of_below (F := fun k => k = cb) hb3).drew).setCell (a := ⟨cb, 0, none⟩) (.inl rfl) _) hg _)
              clear HN2 HV2 hst keep hrt
              go_region
              all_goals (go_wp2)
              all_goals (go_end0; exact ⟨⟨_, rfl⟩, FIN.out⟩)
            · have hmn : min rfo (4611686018427387903 - now) = (4611686018427387903 - now) := by omega
              rw [hmn] at hput HN2
              have hK2 : 4611686018427387903 - now < rfo := by omega
              have hK4 : IntKind.i64.wrap (4611686018427387903 - now) = 4611686018427387903 - now := by simp [IntKind.wrap, IntKind.signed, IntKind.bits]; omega
              have hK5 : IntKind.i64.wrap (now + (4611686018427387903 - now)) = now + (4611686018427387903 - now) := by simp [IntKind.wrap, IntKind.signed, IntKind.bits]; omega
              clear hmn
              have FIN : Hid (FailPost w s i (nSeat ⟨rf, rlo, rfo, rnu, rde⟩ ⟨0, xs, xu⟩ now true) cb (!(stays ⟨rf, rlo, rfo, rnu, rde⟩ ⟨0, xs, xu⟩ now true)) g cap ((putObj (W3.setCell ⟨cb, 0, none⟩ (.bool true)) g (.cells (spliceA cur3 (i * 3) #[.int .i64 0, .int .i64 0, .int .i64 (now + (4611686018427387903 - now))]) 138)).drew)) := Lib.hid (by
                show FailPost _ _ _ _ _ _ _ _ (putObj (W3.drew.setCell ⟨cb, 0, none⟩ (.bool true)) g (.cells (spliceA cur3 (i * 3) #[.int .i64 0, .int .i64 0, .int .i64 (now + (4611686018427387903 - now))]) 138))
                rw [HN2.out, hst, if_neg (by decide)]
                have hsz : (spliceA cur3 (i * 3) #[.int .i64 0, .int .i64 0, .int .i64 (now + (4611686018427387903 - now))]).size = cur3.size := size_spliceA (by simp; omega)
                have hrw := row_upd (y := ⟨0, 0, now + (4611686018427387903 - now)⟩) (by rw [hl3]; exact hrt) (by rw [hl3]; exact hi) (by rw [hl3]; omega) hsz (fun j j0 j1 j2 => by rw [splice_get _ _ _ _ (by simp; omega), if_neg (by simp; omega)]) (by rw [splice_get _ _ _ _ (by simp; omega), if_pos (by simp)]; simp) (by rw [splice_get _ _ _ _ (by simp; omega), if_pos (by simp)]; simp) (by rw [splice_get _ _ _ _ (by simp; omega), if_pos (by simp)]; simp)
                rw [hl3, List.set_set] at hrw
                have hbig : Below w.heap.size w (putObj W3.drew g (.cells (spliceA cur3 (i * 3) #[.int .i64 0, .int .i64 0, .int .i64 (now + (4611686018427387903 - now))]) 138)) := below_putObj hb3.drew hg _
                have hgg : g < (W3.drew.setCell ⟨cb, 0, none⟩ (.bool true)).heap.size := by simpa using hz3
                have ng : g ≠ cb := fun e => n4 e.symm
                refine ⟨(turnPost_of (W' := putObj W3.drew g (.cells (spliceA cur3 (i * 3) #[.int .i64 0, .int .i64 0, .int .i64 (now + (4611686018427387903 - now))]) 138)) hi hg (obj_putObj_eq _ _ _ hz3) (hsz.trans hc3) h1 h2 hrw hbig).1.keeps (fun k hk => ?_), (obj_putObj_ne _ _ _ _ n4).trans (obj_setCell_at _ ((obj_drew _ _).trans u4)), ?_⟩
                · simp [Value.ownBlock] at hk; subst hk; rw [obj_putObj_eq _ _ _ hgg]; exact (obj_putObj_eq _ _ _ (show g < W3.drew.heap.size from hz3)).symm
                · exact keeps_putNew (((Keeps.of_below (F := fun k => k = cb) hb3).drew).setCell (a := ⟨cb, 0, none⟩) (.inl rfl) _) hg _)
              clear HN2 HV2 hst keep hrt
              go_region
              all_goals (go_wp2)
              all_goals (go_end0; exact ⟨⟨_, rfl⟩, FIN.out⟩)
        · have hst : (stays ⟨rf, rlo, rfo, rnu, rde⟩ ⟨0, xs, xu⟩ now room) = true := by rw [HV2.out, hB]; simp
          have FIN : Hid (FailPost w s i (nSeat ⟨rf, rlo, rfo, rnu, rde⟩ ⟨0, xs, xu⟩ now room) cb (!(stays ⟨rf, rlo, rfo, rnu, rde⟩ ⟨0, xs, xu⟩ now room)) g cap W3.drew) := Lib.hid (by rw [HN2.out, hst, if_pos rfl]; exact ⟨(keep 0).out.1.drew, (obj_drew _ _).trans (keep 0).out.2.1, (keep 0).out.2.2.drew⟩)
          clear HN2 HV2 hst keep hrt oc hput
          go_region
          all_goals (go_wp2)
          all_goals (refine bodyPost_ret (results_none rfl _ _ _) rfl ?_; exact ⟨⟨_, rfl⟩, FIN.out⟩)
    · have hst : (stays ⟨rf, rlo, rfo, rnu, rde⟩ ⟨0, xs, xu⟩ now room) = true := by rw [HV2.out]; simp [hA]
      have FIN : Hid (FailPost w s i (nSeat ⟨rf, rlo, rfo, rnu, rde⟩ ⟨0, xs, xu⟩ now room) cb (!(stays ⟨rf, rlo, rfo, rnu, rde⟩ ⟨0, xs, xu⟩ now room)) g cap W3.drew) := Lib.hid (by rw [HN2.out, hst, if_pos rfl]; exact ⟨(keep 0).out.1.drew, (obj_drew _ _).trans (keep 0).out.2.1, (keep 0).out.2.2.drew⟩)
      clear HN2 HV2 hst keep hrt oc hput
      go_region
      all_goals (go_wp2)
      all_goals (refine bodyPost_ret (results_none rfl _ _ _) rfl ?_; exact ⟨⟨_, rfl⟩, FIN.out⟩)
  · by_cases hm : xf + 1 ≤ 1000
    · have hm2 : ¬ 1000 < xf + 1 := by omega
      simp only [List.append_toArray, List.cons_append, List.nil_append]
      go_enter Tryz.func111, Tryz.ntmps111
      go_wp2
      have hNF : nF ⟨xf, xs, xu⟩ = (xf + 1) := by show min (xf + 1) 1000 = _; omega
      have hNS : nS ⟨xf, xs, xu⟩ now = xs := by unfold nS; exact if_neg hf
      have oc := obj_setCell_at (i := i * 3) (.int .i64 (xf + 1)) ho
      have rt := row_upd (y := ⟨(xf + 1), xs, xu⟩) HT.out hi (by omega) (cur' := cur.setIfInBounds (i * 3) (.int .i64 (xf + 1))) (by simp) (fun j j0 j1 j2 => by rw [Array.getElem?_setIfInBounds_ne (by omega)]) (by rw [Array.getElem?_setIfInBounds_self_of_lt (by omega)]) (by rw [Array.getElem?_setIfInBounds_ne (by omega)]; rw [cell_at ho] at c1; exact c1) (by rw [Array.getElem?_setIfInBounds_ne (by omega)]; rw [cell_at ho] at c2; exact c2)
      have hc3 : (cur.setIfInBounds (i * 3) (.int .i64 (xf + 1))).size = cap * 3 := by simpa using hc
      have hb3 : Below w.heap.size w (W.setCell ⟨g, i * 3, none⟩ (.int .i64 (xf + 1))) := hb.setCell hg _
      generalize cur.setIfInBounds (i * 3) (.int .i64 (xf + 1)) = cur3 at *
      have u1 : obj (W.setCell ⟨g, i * 3, none⟩ (.int .i64 (xf + 1))) _ = _ := (obj_setCell_ne _ ⟨g, i * 3, none⟩ _ _ n1).trans p1
      have u2 : obj (W.setCell ⟨g, i * 3, none⟩ (.int .i64 (xf + 1))) _ = _ := (obj_setCell_ne _ ⟨g, i * 3, none⟩ _ _ n2).trans p2
      have u3 : obj (W.setCell ⟨g, i * 3, none⟩ (.int .i64 (xf + 1))) _ = _ := (obj_setCell_ne _ ⟨g, i * 3, none⟩ _ _ n3).trans p3
      have u4 : obj (W.setCell ⟨g, i * 3, none⟩ (.int .i64 (xf + 1))) _ = _ := (obj_setCell_ne _ ⟨g, i * 3, none⟩ _ _ n4).trans p4
      generalize (W.setCell ⟨g, i * 3, none⟩ (.int .i64 (xf + 1))) = W3 at *
      clear p1 p2 p3 p4 o1 o2 o3 o4 c0 c1 c2 q1 f0 ho hc HT hz hb
      have hFF : (xf + 1) = nF ⟨xf, xs, xu⟩ := hNF.symm
      have HV := Lib.hid (show stays ⟨rf, rlo, rfo, rnu, rde⟩ ⟨xf, xs, xu⟩ now room = (decide ((xf + 1) < rf) || decide (max (now - xs) 0 < rlo) || !room) by unfold stays; rw [hNF, hNS])
      have HN := Lib.hid (show nSeat ⟨rf, rlo, rfo, rnu, rde⟩ ⟨xf, xs, xu⟩ now room = if stays ⟨rf, rlo, rfo, rnu, rde⟩ ⟨xf, xs, xu⟩ now room = true then ⟨(xf + 1), xs, xu⟩ else ⟨0, 0, now + min rfo (4611686018427387903 - now)⟩ by unfold nSeat; rw [hNF, hNS])
      obtain ⟨F, hF⟩ : ∃ F : Int, F = (xf + 1) := ⟨_, rfl⟩
      obtain ⟨S, hS⟩ : ∃ S : Int, S = xs := ⟨_, rfl⟩
      have hS0 : 0 ≤ S ∧ S ≤ 4611686018427387903 := by omega
      have hrt : cur3.toList.take (s.length * 3) = (s.set i ⟨F, S, xu⟩).flatMap stL := by rw [hF, hS]; exact rt
      have HV2 := Lib.hid (show (stays ⟨rf, rlo, rfo, rnu, rde⟩ ⟨xf, xs, xu⟩ now room) = (decide (F < rf) || decide (max (now - S) 0 < rlo) || !room) by rw [hF, hS]; exact HV.out)
      have HN2 := Lib.hid (show (nSeat ⟨rf, rlo, rfo, rnu, rde⟩ ⟨xf, xs, xu⟩ now room) = if (stays ⟨rf, rlo, rfo, rnu, rde⟩ ⟨xf, xs, xu⟩ now room) = true then ⟨F, S, xu⟩ else ⟨0, 0, now + min rfo (4611686018427387903 - now)⟩ by rw [hF, hS]; exact HN.out)
      clear hF hS rt HV HN hNF hNS hFF hX
      have hl3 : (s.set i ⟨F, S, xu⟩).length = s.length := List.length_set
      have e3 : (s.set i ⟨F, S, xu⟩)[i]'(by rw [hl3]; exact hi) = ⟨F, S, xu⟩ := by simp
      have d0 := cur_cell oc (by rw [hl3]; exact hrt) (by rw [hl3]; exact hi) (r := 0) (by decide)
      have d1 := cur_cell oc (by rw [hl3]; exact hrt) (by rw [hl3]; exact hi) (r := 1) (by decide)
      rw [e3] at d0 d1
      simp only [Nat.add_zero, stL, List.getElem?_cons_zero, List.getElem?_cons_succ] at d0 d1
      have v1 : W3.cell? ⟨nb, 0, none⟩ = some (.int .i64 now) := cell_at u1 0
      have v2 : W3.cell? ⟨rb, 0, none⟩ = some (.int .i64 rf) := cell_at u2 0
      have v3 : W3.cell? ⟨rb, 1, none⟩ = some (.int .i64 rlo) := cell_at u2 1
      have v4 : W3.cell? ⟨rb, 2, none⟩ = some (.int .i64 rfo) := cell_at u2 2
      have v5 : W3.cell? ⟨mb, 0, none⟩ = some (.bool room) := cell_at u3 0
      have nc1 : nb ≠ cb := fun e => by rw [e] at u1; rw [u1] at u4; cases u4
      have nc2 : rb ≠ cb := fun e => by rw [e] at u2; rw [u2] at u4; cases u4
      have nc3 : g ≠ cb := fun e => n4 e.symm
      have vc : W3.cell? ⟨cb, 0, none⟩ = some (.bool false) := cell_at u4 0
      have hz3 := lt_of_obj oc
      have hcb := lt_of_obj u4
      have fc : ∀ j, W3.frozen? ⟨cb, j, none⟩ = false := frozen_at u4
      have hcur : cur3.size = cap * 3 := hc3
      have hput : putOf (some (.cells cur3 138 (0, 0))) (i * 3) 3 #[.int .i64 0, .int .i64 0, .int .i64 (now + min rfo (4611686018427387903 - now))] = some (.cells (spliceA cur3 (i * 3) #[.int .i64 0, .int .i64 0, .int .i64 (now + min rfo (4611686018427387903 - now))]) 138 (0, 0)) := putOf_cells (by omega) rfl rfl
      have hwS : IntKind.i64.wrap (now - S) = now - S := by simp [IntKind.wrap, IntKind.signed, IntKind.bits]; omega
      have keep : ∀ n : Nat, Hid (FailPost w s i ⟨F, S, xu⟩ cb false g cap W3) := fun _ => Lib.hid ⟨(turnPost_of hi hg oc hc3 h1 h2 hrt hb3).1, u4, Keeps.of_below hb3⟩
      cases hA : decide (F < rf)
      · by_cases hM : now - S < 0
        · have hmx : max (now - S) 0 = 0 := by omega
          rw [hmx] at HV2
          clear hmx
          cases hB : decide ((0 : Int) < rlo)
          · cases room
            · have hst : (stays ⟨rf, rlo, rfo, rnu, rde⟩ ⟨xf, xs, xu⟩ now false) = true := by rw [HV2.out]; simp
              have FIN : Hid (FailPost w s i (nSeat ⟨rf, rlo, rfo, rnu, rde⟩ ⟨xf, xs, xu⟩ now false) cb (!(stays ⟨rf, rlo, rfo, rnu, rde⟩ ⟨xf, xs, xu⟩ now false)) g cap W3.drew) := Lib.hid (by rw [HN2.out, hst, if_pos rfl]; exact ⟨(keep 0).out.1.drew, (obj_drew _ _).trans (keep 0).out.2.1, (keep 0).out.2.2.drew⟩)
              clear HN2 HV2 hst keep hrt oc hput
              go_region
              all_goals (go_wp2)
              all_goals (refine bodyPost_ret (results_none rfl _ _ _) rfl ?_; exact ⟨⟨_, rfl⟩, FIN.out⟩)
            · have hst : (stays ⟨rf, rlo, rfo, rnu, rde⟩ ⟨xf, xs, xu⟩ now true) = false := by rw [HV2.out, hA, hB]; rfl
              by_cases hK : rfo ≤ 4611686018427387903 - now
              · have hmn : min rfo (4611686018427387903 - now) = rfo := by omega
                rw [hmn] at hput HN2
                have hK4 : IntKind.i64.wrap (4611686018427387903 - now) = 4611686018427387903 - now := by simp [IntKind.wrap, IntKind.signed, IntKind.bits]; omega
                have hK5 : IntKind.i64.wrap (now + rfo) = now + rfo := by simp [IntKind.wrap, IntKind.signed, IntKind.bits]; omega
                clear hmn
                have FIN : Hid (FailPost w s i (nSeat ⟨rf, rlo, rfo, rnu, rde⟩ ⟨xf, xs, xu⟩ now true) cb (!(stays ⟨rf, rlo, rfo, rnu, rde⟩ ⟨xf, xs, xu⟩ now true)) g cap ((putObj (W3.setCell ⟨cb, 0, none⟩ (.bool true)) g (.cells (spliceA cur3 (i * 3) #[.int .i64 0, .int .i64 0, .int .i64 (now + rfo)]) 138)).drew)) := Lib.hid (by
                  show FailPost _ _ _ _ _ _ _ _ (putObj (W3.drew.setCell ⟨cb, 0, none⟩ (.bool true)) g (.cells (spliceA cur3 (i * 3) #[.int .i64 0, .int .i64 0, .int .i64 (now + rfo)]) 138))
                  rw [HN2.out, hst, if_neg (by decide)]
                  have hsz : (spliceA cur3 (i * 3) #[.int .i64 0, .int .i64 0, .int .i64 (now + rfo)]).size = cur3.size := size_spliceA (by simp; omega)
                  have hrw := row_upd (y := ⟨0, 0, now + rfo⟩) (by rw [hl3]; exact hrt) (by rw [hl3]; exact hi) (by rw [hl3]; omega) hsz (fun j j0 j1 j2 => by rw [splice_get _ _ _ _ (by simp; omega), if_neg (by simp; omega)]) (by rw [splice_get _ _ _ _ (by simp; omega), if_pos (by simp)]; simp) (by rw [splice_get _ _ _ _ (by simp; omega), if_pos (by simp)]; simp) (by rw [splice_get _ _ _ _ (by simp; omega), if_pos (by simp)]; simp)
                  rw [hl3, List.set_set] at hrw
                  have hbig : Below w.heap.size w (putObj W3.drew g (.cells (spliceA cur3 (i * 3) #[.int .i64 0, .int .i64 0, .int .i64 (now + rfo)]) 138)) := below_putObj hb3.drew hg _
                  have hgg : g < (W3.drew.setCell ⟨cb, 0, none⟩ (.bool true)).heap.size := by simpa using hz3
                  have ng : g ≠ cb := fun e => n4 e.symm
                  refine ⟨(turnPost_of (W' := putObj W3.drew g (.cells (spliceA cur3 (i * 3) #[.int .i64 0, .int .i64 0, .int .i64 (now + rfo)]) 138)) hi hg (obj_putObj_eq _ _ _ hz3) (hsz.trans hc3) h1 h2 hrw hbig).1.keeps (fun k hk => ?_), (obj_putObj_ne _ _ _ _ n4).trans (obj_setCell_at _ ((obj_drew _ _).trans u4)), ?_⟩
                  · simp [Value.ownBlock] at hk; subst hk; rw [obj_putObj_eq _ _ _ hgg]; exact (obj_putObj_eq _ _ _ (show g < W3.drew.heap.size from hz3)).symm
                  · exact keeps_putNew (((Keeps.of_below (F := fun k => k = cb) hb3).drew).setCell (a := ⟨cb, 0, none⟩) (.inl rfl) _) hg _)
                clear HN2 HV2 hst keep hrt
                go_region
                all_goals (go_wp2)
                all_goals (go_end0; exact ⟨⟨_, rfl⟩, FIN.out⟩)
              · have hmn : min rfo (4611686018427387903 - now) = (4611686018427387903 - now) := by omega
                rw [hmn] at hput HN2
                have hK2 : 4611686018427387903 - now < rfo := by omega
                have hK4 : IntKind.i64.wrap (4611686018427387903 - now) = 4611686018427387903 - now := by simp [IntKind.wrap, IntKind.signed, IntKind.bits]; omega
                have hK5 : IntKind.i64.wrap (now + (4611686018427387903 - now)) = now + (4611686018427387903 - now) := by simp [IntKind.wrap, IntKind.signed, IntKind.bits]; omega
                clear hmn
                have FIN : Hid (FailPost w s i (nSeat ⟨rf, rlo, rfo, rnu, rde⟩ ⟨xf, xs, xu⟩ now true) cb (!(stays ⟨rf, rlo, rfo, rnu, rde⟩ ⟨xf, xs, xu⟩ now true)) g cap ((putObj (W3.setCell ⟨cb, 0, none⟩ (.bool true)) g (.cells (spliceA cur3 (i * 3) #[.int .i64 0, .int .i64 0, .int .i64 (now + (4611686018427387903 - now))]) 138)).drew)) := Lib.hid (by
                  show FailPost _ _ _ _ _ _ _ _ (putObj (W3.drew.setCell ⟨cb, 0, none⟩ (.bool true)) g (.cells (spliceA cur3 (i * 3) #[.int .i64 0, .int .i64 0, .int .i64 (now + (4611686018427387903 - now))]) 138))
                  rw [HN2.out, hst, if_neg (by decide)]
                  have hsz : (spliceA cur3 (i * 3) #[.int .i64 0, .int .i64 0, .int .i64 (now + (4611686018427387903 - now))]).size = cur3.size := size_spliceA (by simp; omega)
                  have hrw := row_upd (y := ⟨0, 0, now + (4611686018427387903 - now)⟩) (by rw [hl3]; exact hrt) (by rw [hl3]; exact hi) (by rw [hl3]; omega) hsz (fun j j0 j1 j2 => by rw [splice_get _ _ _ _ (by simp; omega), if_neg (by simp; omega)]) (by rw [splice_get _ _ _ _ (by simp; omega), if_pos (by simp)]; simp) (by rw [splice_get _ _ _ _ (by simp; omega), if_pos (by simp)]; simp) (by rw [splice_get _ _ _ _ (by simp; omega), if_pos (by simp)]; simp)
                  rw [hl3, List.set_set] at hrw
                  have hbig : Below w.heap.size w (putObj W3.drew g (.cells (spliceA cur3 (i * 3) #[.int .i64 0, .int .i64 0, .int .i64 (now + (4611686018427387903 - now))]) 138)) := below_putObj hb3.drew hg _
                  have hgg : g < (W3.drew.setCell ⟨cb, 0, none⟩ (.bool true)).heap.size := by simpa using hz3
                  have ng : g ≠ cb := fun e => n4 e.symm
                  refine ⟨(turnPost_of (W' := putObj W3.drew g (.cells (spliceA cur3 (i * 3) #[.int .i64 0, .int .i64 0, .int .i64 (now + (4611686018427387903 - now))]) 138)) hi hg (obj_putObj_eq _ _ _ hz3) (hsz.trans hc3) h1 h2 hrw hbig).1.keeps (fun k hk => ?_), (obj_putObj_ne _ _ _ _ n4).trans (obj_setCell_at _ ((obj_drew _ _).trans u4)), ?_⟩
                  · simp [Value.ownBlock] at hk; subst hk; rw [obj_putObj_eq _ _ _ hgg]; exact (obj_putObj_eq _ _ _ (show g < W3.drew.heap.size from hz3)).symm
                  · exact keeps_putNew (((Keeps.of_below (F := fun k => k = cb) hb3).drew).setCell (a := ⟨cb, 0, none⟩) (.inl rfl) _) hg _)
                clear HN2 HV2 hst keep hrt
                go_region
                all_goals (go_wp2)
                all_goals (go_end0; exact ⟨⟨_, rfl⟩, FIN.out⟩)
          · have hst : (stays ⟨rf, rlo, rfo, rnu, rde⟩ ⟨xf, xs, xu⟩ now room) = true := by rw [HV2.out, hB]; simp
            have FIN : Hid (FailPost w s i (nSeat ⟨rf, rlo, rfo, rnu, rde⟩ ⟨xf, xs, xu⟩ now room) cb (!(stays ⟨rf, rlo, rfo, rnu, rde⟩ ⟨xf, xs, xu⟩ now room)) g cap W3.drew) := Lib.hid (by rw [HN2.out, hst, if_pos rfl]; exact ⟨(keep 0).out.1.drew, (obj_drew _ _).trans (keep 0).out.2.1, (keep 0).out.2.2.drew⟩)
            clear HN2 HV2 hst keep hrt oc hput
            go_region
            all_goals (go_wp2)
            all_goals (refine bodyPost_ret (results_none rfl _ _ _) rfl ?_; exact ⟨⟨_, rfl⟩, FIN.out⟩)
        · have hmx : max (now - S) 0 = now - S := by omega
          have hM3 : 0 ≤ now - S := by omega
          rw [hmx] at HV2
          clear hmx
          cases hB : decide ((now - S) < rlo)
          · cases room
            · have hst : (stays ⟨rf, rlo, rfo, rnu, rde⟩ ⟨xf, xs, xu⟩ now false) = true := by rw [HV2.out]; simp
              have FIN : Hid (FailPost w s i (nSeat ⟨rf, rlo, rfo, rnu, rde⟩ ⟨xf, xs, xu⟩ now false) cb (!(stays ⟨rf, rlo, rfo, rnu, rde⟩ ⟨xf, xs, xu⟩ now false)) g cap W3.drew) := Lib.hid (by rw [HN2.out, hst, if_pos rfl]; exact ⟨(keep 0).out.1.drew, (obj_drew _ _).trans (keep 0).out.2.1, (keep 0).out.2.2.drew⟩)
              clear HN2 HV2 hst keep hrt oc hput
              go_region
              all_goals (go_wp2)
              all_goals (refine bodyPost_ret (results_none rfl _ _ _) rfl ?_; exact ⟨⟨_, rfl⟩, FIN.out⟩)
            · have hst : (stays ⟨rf, rlo, rfo, rnu, rde⟩ ⟨xf, xs, xu⟩ now true) = false := by rw [HV2.out, hA, hB]; rfl
              by_cases hK : rfo ≤ 4611686018427387903 - now
              · have hmn : min rfo (4611686018427387903 - now) = rfo := by omega
                rw [hmn] at hput HN2
                have hK4 : IntKind.i64.wrap (4611686018427387903 - now) = 4611686018427387903 - now := by simp [IntKind.wrap, IntKind.signed, IntKind.bits]; omega
                have hK5 : IntKind.i64.wrap (now + rfo) = now + rfo := by simp [IntKind.wrap, IntKind.signed, IntKind.bits]; omega
                clear hmn
                have FIN : Hid (FailPost w s i (nSeat ⟨rf, rlo, rfo, rnu, rde⟩ ⟨xf, xs, xu⟩ now true) cb (!(stays ⟨rf, rlo, rfo, rnu, rde⟩ ⟨xf, xs, xu⟩ now true)) g cap ((putObj (W3.setCell ⟨cb, 0, none⟩ (.bool true)) g (.cells (spliceA cur3 (i * 3) #[.int .i64 0, .int .i64 0, .int .i64 (now + rfo)]) 138)).drew)) := Lib.hid (by
                  show FailPost _ _ _ _ _ _ _ _ (putObj (W3.drew.setCell ⟨cb, 0, none⟩ (.bool true)) g (.cells (spliceA cur3 (i * 3) #[.int .i64 0, .int .i64 0, .int .i64 (now + rfo)]) 138))
                  rw [HN2.out, hst, if_neg (by decide)]
                  have hsz : (spliceA cur3 (i * 3) #[.int .i64 0, .int .i64 0, .int .i64 (now + rfo)]).size = cur3.size := size_spliceA (by simp; omega)
                  have hrw := row_upd (y := ⟨0, 0, now + rfo⟩) (by rw [hl3]; exact hrt) (by rw [hl3]; exact hi) (by rw [hl3]; omega) hsz (fun j j0 j1 j2 => by rw [splice_get _ _ _ _ (by simp; omega), if_neg (by simp; omega)]) (by rw [splice_get _ _ _ _ (by simp; omega), if_pos (by simp)]; simp) (by rw [splice_get _ _ _ _ (by simp; omega), if_pos (by simp)]; simp) (by rw [splice_get _ _ _ _ (by simp; omega), if_pos (by simp)]; simp)
                  rw [hl3, List.set_set] at hrw
                  have hbig : Below w.heap.size w (putObj W3.drew g (.cells (spliceA cur3 (i * 3) #[.int .i64 0, .int .i64 0, .int .i64 (now + rfo)]) 138)) := below_putObj hb3.drew hg _
                  have hgg : g < (W3.drew.setCell ⟨cb, 0, none⟩ (.bool true)).heap.size := by simpa using hz3
                  have ng : g ≠ cb := fun e => n4 e.symm
                  refine ⟨(turnPost_of (W' := putObj W3.drew g (.cells (spliceA cur3 (i * 3) #[.int .i64 0, .int .i64 0, .int .i64 (now + rfo)]) 138)) hi hg (obj_putObj_eq _ _ _ hz3) (hsz.trans hc3) h1 h2 hrw hbig).1.keeps (fun k hk => ?_), (obj_putObj_ne _ _ _ _ n4).trans (obj_setCell_at _ ((obj_drew _ _).trans u4)), ?_⟩
                  · simp [Value.ownBlock] at hk; subst hk; rw [obj_putObj_eq _ _ _ hgg]; exact (obj_putObj_eq _ _ _ (show g < W3.drew.heap.size from hz3)).symm
                  · exact keeps_putNew (((Keeps.of_below (F := fun k => k = cb) hb3).drew).setCell (a := ⟨cb, 0, none⟩) (.inl rfl) _) hg _)
                clear HN2 HV2 hst keep hrt
                go_region
                all_goals (go_wp2)
                all_goals (go_end0; exact ⟨⟨_, rfl⟩, FIN.out⟩)
              · have hmn : min rfo (4611686018427387903 - now) = (4611686018427387903 - now) := by omega
                rw [hmn] at hput HN2
                have hK2 : 4611686018427387903 - now < rfo := by omega
                have hK4 : IntKind.i64.wrap (4611686018427387903 - now) = 4611686018427387903 - now := by simp [IntKind.wrap, IntKind.signed, IntKind.bits]; omega
                have hK5 : IntKind.i64.wrap (now + (4611686018427387903 - now)) = now + (4611686018427387903 - now) := by simp [IntKind.wrap, IntKind.signed, IntKind.bits]; omega
                clear hmn
                have FIN : Hid (FailPost w s i (nSeat ⟨rf, rlo, rfo, rnu, rde⟩ ⟨xf, xs, xu⟩ now true) cb (!(stays ⟨rf, rlo, rfo, rnu, rde⟩ ⟨xf, xs, xu⟩ now true)) g cap ((putObj (W3.setCell ⟨cb, 0, none⟩ (.bool true)) g (.cells (spliceA cur3 (i * 3) #[.int .i64 0, .int .i64 0, .int .i64 (now + (4611686018427387903 - now))]) 138)).drew)) := Lib.hid (by
                  show FailPost _ _ _ _ _ _ _ _ (putObj (W3.drew.setCell ⟨cb, 0, none⟩ (.bool true)) g (.cells (spliceA cur3 (i * 3) #[.int .i64 0, .int .i64 0, .int .i64 (now + (4611686018427387903 - now))]) 138))
                  rw [HN2.out, hst, if_neg (by decide)]
                  have hsz : (spliceA cur3 (i * 3) #[.int .i64 0, .int .i64 0, .int .i64 (now + (4611686018427387903 - now))]).size = cur3.size := size_spliceA (by simp; omega)
                  have hrw := row_upd (y := ⟨0, 0, now + (4611686018427387903 - now)⟩) (by rw [hl3]; exact hrt) (by rw [hl3]; exact hi) (by rw [hl3]; omega) hsz (fun j j0 j1 j2 => by rw [splice_get _ _ _ _ (by simp; omega), if_neg (by simp; omega)]) (by rw [splice_get _ _ _ _ (by simp; omega), if_pos (by simp)]; simp) (by rw [splice_get _ _ _ _ (by simp; omega), if_pos (by simp)]; simp) (by rw [splice_get _ _ _ _ (by simp; omega), if_pos (by simp)]; simp)
                  rw [hl3, List.set_set] at hrw
                  have hbig : Below w.heap.size w (putObj W3.drew g (.cells (spliceA cur3 (i * 3) #[.int .i64 0, .int .i64 0, .int .i64 (now + (4611686018427387903 - now))]) 138)) := below_putObj hb3.drew hg _
                  have hgg : g < (W3.drew.setCell ⟨cb, 0, none⟩ (.bool true)).heap.size := by simpa using hz3
                  have ng : g ≠ cb := fun e => n4 e.symm
                  refine ⟨(turnPost_of (W' := putObj W3.drew g (.cells (spliceA cur3 (i * 3) #[.int .i64 0, .int .i64 0, .int .i64 (now + (4611686018427387903 - now))]) 138)) hi hg (obj_putObj_eq _ _ _ hz3) (hsz.trans hc3) h1 h2 hrw hbig).1.keeps (fun k hk => ?_), (obj_putObj_ne _ _ _ _ n4).trans (obj_setCell_at _ ((obj_drew _ _).trans u4)), ?_⟩
                  · simp [Value.ownBlock] at hk; subst hk; rw [obj_putObj_eq _ _ _ hgg]; exact (obj_putObj_eq _ _ _ (show g < W3.drew.heap.size from hz3)).symm
                  · exact keeps_putNew (((Keeps.of_below (F := fun k => k = cb) hb3).drew).setCell (a := ⟨cb, 0, none⟩) (.inl rfl) _) hg _)
                clear HN2 HV2 hst keep hrt
                go_region
                all_goals (go_wp2)
                all_goals (go_end0; exact ⟨⟨_, rfl⟩, FIN.out⟩)
          · have hst : (stays ⟨rf, rlo, rfo, rnu, rde⟩ ⟨xf, xs, xu⟩ now room) = true := by rw [HV2.out, hB]; simp
            have FIN : Hid (FailPost w s i (nSeat ⟨rf, rlo, rfo, rnu, rde⟩ ⟨xf, xs, xu⟩ now room) cb (!(stays ⟨rf, rlo, rfo, rnu, rde⟩ ⟨xf, xs, xu⟩ now room)) g cap W3.drew) := Lib.hid (by rw [HN2.out, hst, if_pos rfl]; exact ⟨(keep 0).out.1.drew, (obj_drew _ _).trans (keep 0).out.2.1, (keep 0).out.2.2.drew⟩)
            clear HN2 HV2 hst keep hrt oc hput
            go_region
            all_goals (go_wp2)
            all_goals (refine bodyPost_ret (results_none rfl _ _ _) rfl ?_; exact ⟨⟨_, rfl⟩, FIN.out⟩)
      · have hst : (stays ⟨rf, rlo, rfo, rnu, rde⟩ ⟨xf, xs, xu⟩ now room) = true := by rw [HV2.out]; simp [hA]
        have FIN : Hid (FailPost w s i (nSeat ⟨rf, rlo, rfo, rnu, rde⟩ ⟨xf, xs, xu⟩ now room) cb (!(stays ⟨rf, rlo, rfo, rnu, rde⟩ ⟨xf, xs, xu⟩ now room)) g cap W3.drew) := Lib.hid (by rw [HN2.out, hst, if_pos rfl]; exact ⟨(keep 0).out.1.drew, (obj_drew _ _).trans (keep 0).out.2.1, (keep 0).out.2.2.drew⟩)
        clear HN2 HV2 hst keep hrt oc hput
        go_region
        all_goals (go_wp2)
        all_goals (refine bodyPost_ret (results_none rfl _ _ _) rfl ?_; exact ⟨⟨_, rfl⟩, FIN.out⟩)
    · have hm2 : 1000 < xf + 1 := by omega
      simp only [List.append_toArray, List.cons_append, List.nil_append]
      go_enter Tryz.func111, Tryz.ntmps111
      go_wp2
      have hNF : nF ⟨xf, xs, xu⟩ = 1000 := by show min (xf + 1) 1000 = _; omega
      have hNS : nS ⟨xf, xs, xu⟩ now = xs := by unfold nS; exact if_neg hf
      have oc := obj_setCell_at (i := i * 3) (.int .i64 1000) ho
      have rt := row_upd (y := ⟨1000, xs, xu⟩) HT.out hi (by omega) (cur' := cur.setIfInBounds (i * 3) (.int .i64 1000)) (by simp) (fun j j0 j1 j2 => by rw [Array.getElem?_setIfInBounds_ne (by omega)]) (by rw [Array.getElem?_setIfInBounds_self_of_lt (by omega)]) (by rw [Array.getElem?_setIfInBounds_ne (by omega)]; rw [cell_at ho] at c1; exact c1) (by rw [Array.getElem?_setIfInBounds_ne (by omega)]; rw [cell_at ho] at c2; exact c2)
      have hc3 : (cur.setIfInBounds (i * 3) (.int .i64 1000)).size = cap * 3 := by simpa using hc
      have hb3 : Below w.heap.size w (W.setCell ⟨g, i * 3, none⟩ (.int .i64 1000)) := hb.setCell hg _
      generalize cur.setIfInBounds (i * 3) (.int .i64 1000) = cur3 at *
      have u1 : obj (W.setCell ⟨g, i * 3, none⟩ (.int .i64 1000)) _ = _ := (obj_setCell_ne _ ⟨g, i * 3, none⟩ _ _ n1).trans p1
      have u2 : obj (W.setCell ⟨g, i * 3, none⟩ (.int .i64 1000)) _ = _ := (obj_setCell_ne _ ⟨g, i * 3, none⟩ _ _ n2).trans p2
      have u3 : obj (W.setCell ⟨g, i * 3, none⟩ (.int .i64 1000)) _ = _ := (obj_setCell_ne _ ⟨g, i * 3, none⟩ _ _ n3).trans p3
      have u4 : obj (W.setCell ⟨g, i * 3, none⟩ (.int .i64 1000)) _ = _ := (obj_setCell_ne _ ⟨g, i * 3, none⟩ _ _ n4).trans p4
      generalize (W.setCell ⟨g, i * 3, none⟩ (.int .i64 1000)) = W3 at *
      clear p1 p2 p3 p4 o1 o2 o3 o4 c0 c1 c2 q1 f0 ho hc HT hz hb
      have hFF : 1000 = nF ⟨xf, xs, xu⟩ := hNF.symm
      have HV := Lib.hid (show stays ⟨rf, rlo, rfo, rnu, rde⟩ ⟨xf, xs, xu⟩ now room = (decide (1000 < rf) || decide (max (now - xs) 0 < rlo) || !room) by unfold stays; rw [hNF, hNS])
      have HN := Lib.hid (show nSeat ⟨rf, rlo, rfo, rnu, rde⟩ ⟨xf, xs, xu⟩ now room = if stays ⟨rf, rlo, rfo, rnu, rde⟩ ⟨xf, xs, xu⟩ now room = true then ⟨1000, xs, xu⟩ else ⟨0, 0, now + min rfo (4611686018427387903 - now)⟩ by unfold nSeat; rw [hNF, hNS])
      obtain ⟨F, hF⟩ : ∃ F : Int, F = 1000 := ⟨_, rfl⟩
      obtain ⟨S, hS⟩ : ∃ S : Int, S = xs := ⟨_, rfl⟩
      have hS0 : 0 ≤ S ∧ S ≤ 4611686018427387903 := by omega
      have hrt : cur3.toList.take (s.length * 3) = (s.set i ⟨F, S, xu⟩).flatMap stL := by rw [hF, hS]; exact rt
      have HV2 := Lib.hid (show (stays ⟨rf, rlo, rfo, rnu, rde⟩ ⟨xf, xs, xu⟩ now room) = (decide (F < rf) || decide (max (now - S) 0 < rlo) || !room) by rw [hF, hS]; exact HV.out)
      have HN2 := Lib.hid (show (nSeat ⟨rf, rlo, rfo, rnu, rde⟩ ⟨xf, xs, xu⟩ now room) = if (stays ⟨rf, rlo, rfo, rnu, rde⟩ ⟨xf, xs, xu⟩ now room) = true then ⟨F, S, xu⟩ else ⟨0, 0, now + min rfo (4611686018427387903 - now)⟩ by rw [hF, hS]; exact HN.out)
      clear hF hS rt HV HN hNF hNS hFF hX
      have hl3 : (s.set i ⟨F, S, xu⟩).length = s.length := List.length_set
      have e3 : (s.set i ⟨F, S, xu⟩)[i]'(by rw [hl3]; exact hi) = ⟨F, S, xu⟩ := by simp
      have d0 := cur_cell oc (by rw [hl3]; exact hrt) (by rw [hl3]; exact hi) (r := 0) (by decide)
      have d1 := cur_cell oc (by rw [hl3]; exact hrt) (by rw [hl3]; exact hi) (r := 1) (by decide)
      rw [e3] at d0 d1
      simp only [Nat.add_zero, stL, List.getElem?_cons_zero, List.getElem?_cons_succ] at d0 d1
      have v1 : W3.cell? ⟨nb, 0, none⟩ = some (.int .i64 now) := cell_at u1 0
      have v2 : W3.cell? ⟨rb, 0, none⟩ = some (.int .i64 rf) := cell_at u2 0
      have v3 : W3.cell? ⟨rb, 1, none⟩ = some (.int .i64 rlo) := cell_at u2 1
      have v4 : W3.cell? ⟨rb, 2, none⟩ = some (.int .i64 rfo) := cell_at u2 2
      have v5 : W3.cell? ⟨mb, 0, none⟩ = some (.bool room) := cell_at u3 0
      have nc1 : nb ≠ cb := fun e => by rw [e] at u1; rw [u1] at u4; cases u4
      have nc2 : rb ≠ cb := fun e => by rw [e] at u2; rw [u2] at u4; cases u4
      have nc3 : g ≠ cb := fun e => n4 e.symm
      have vc : W3.cell? ⟨cb, 0, none⟩ = some (.bool false) := cell_at u4 0
      have hz3 := lt_of_obj oc
      have hcb := lt_of_obj u4
      have fc : ∀ j, W3.frozen? ⟨cb, j, none⟩ = false := frozen_at u4
      have hcur : cur3.size = cap * 3 := hc3
      have hput : putOf (some (.cells cur3 138 (0, 0))) (i * 3) 3 #[.int .i64 0, .int .i64 0, .int .i64 (now + min rfo (4611686018427387903 - now))] = some (.cells (spliceA cur3 (i * 3) #[.int .i64 0, .int .i64 0, .int .i64 (now + min rfo (4611686018427387903 - now))]) 138 (0, 0)) := putOf_cells (by omega) rfl rfl
      have hwS : IntKind.i64.wrap (now - S) = now - S := by simp [IntKind.wrap, IntKind.signed, IntKind.bits]; omega
      have keep : ∀ n : Nat, Hid (FailPost w s i ⟨F, S, xu⟩ cb false g cap W3) := fun _ => Lib.hid ⟨(turnPost_of hi hg oc hc3 h1 h2 hrt hb3).1, u4, Keeps.of_below hb3⟩
      cases hA : decide (F < rf)
      · by_cases hM : now - S < 0
        · have hmx : max (now - S) 0 = 0 := by omega
          rw [hmx] at HV2
          clear hmx
          cases hB : decide ((0 : Int) < rlo)
          · cases room
            · have hst : (stays ⟨rf, rlo, rfo, rnu, rde⟩ ⟨xf, xs, xu⟩ now false) = true := by rw [HV2.out]; simp
              have FIN : Hid (FailPost w s i (nSeat ⟨rf, rlo, rfo, rnu, rde⟩ ⟨xf, xs, xu⟩ now false) cb (!(stays ⟨rf, rlo, rfo, rnu, rde⟩ ⟨xf, xs, xu⟩ now false)) g cap W3.drew) := Lib.hid (by rw [HN2.out, hst, if_pos rfl]; exact ⟨(keep 0).out.1.drew, (obj_drew _ _).trans (keep 0).out.2.1, (keep 0).out.2.2.drew⟩)
              clear HN2 HV2 hst keep hrt oc hput
              go_region
              all_goals (go_wp2)
              all_goals (refine bodyPost_ret (results_none rfl _ _ _) rfl ?_; exact ⟨⟨_, rfl⟩, FIN.out⟩)
            · have hst : (stays ⟨rf, rlo, rfo, rnu, rde⟩ ⟨xf, xs, xu⟩ now true) = false := by rw [HV2.out, hA, hB]; rfl
              by_cases hK : rfo ≤ 4611686018427387903 - now
              · have hmn : min rfo (4611686018427387903 - now) = rfo := by omega
                rw [hmn] at hput HN2
                have hK4 : IntKind.i64.wrap (4611686018427387903 - now) = 4611686018427387903 - now := by simp [IntKind.wrap, IntKind.signed, IntKind.bits]; omega
                have hK5 : IntKind.i64.wrap (now + rfo) = now + rfo := by simp [IntKind.wrap, IntKind.signed, IntKind.bits]; omega
                clear hmn
                have FIN : Hid (FailPost w s i (nSeat ⟨rf, rlo, rfo, rnu, rde⟩ ⟨xf, xs, xu⟩ now true) cb (!(stays ⟨rf, rlo, rfo, rnu, rde⟩ ⟨xf, xs, xu⟩ now true)) g cap ((putObj (W3.setCell ⟨cb, 0, none⟩ (.bool true)) g (.cells (spliceA cur3 (i * 3) #[.int .i64 0, .int .i64 0, .int .i64 (now + rfo)]) 138)).drew)) := Lib.hid (by
                  show FailPost _ _ _ _ _ _ _ _ (putObj (W3.drew.setCell ⟨cb, 0, none⟩ (.bool true)) g (.cells (spliceA cur3 (i * 3) #[.int .i64 0, .int .i64 0, .int .i64 (now + rfo)]) 138))
                  rw [HN2.out, hst, if_neg (by decide)]
                  have hsz : (spliceA cur3 (i * 3) #[.int .i64 0, .int .i64 0, .int .i64 (now + rfo)]).size = cur3.size := size_spliceA (by simp; omega)
                  have hrw := row_upd (y := ⟨0, 0, now + rfo⟩) (by rw [hl3]; exact hrt) (by rw [hl3]; exact hi) (by rw [hl3]; omega) hsz (fun j j0 j1 j2 => by rw [splice_get _ _ _ _ (by simp; omega), if_neg (by simp; omega)]) (by rw [splice_get _ _ _ _ (by simp; omega), if_pos (by simp)]; simp) (by rw [splice_get _ _ _ _ (by simp; omega), if_pos (by simp)]; simp) (by rw [splice_get _ _ _ _ (by simp; omega), if_pos (by simp)]; simp)
                  rw [hl3, List.set_set] at hrw
                  have hbig : Below w.heap.size w (putObj W3.drew g (.cells (spliceA cur3 (i * 3) #[.int .i64 0, .int .i64 0, .int .i64 (now + rfo)]) 138)) := below_putObj hb3.drew hg _
                  have hgg : g < (W3.drew.setCell ⟨cb, 0, none⟩ (.bool true)).heap.size := by simpa using hz3
                  have ng : g ≠ cb := fun e => n4 e.symm
                  refine ⟨(turnPost_of (W' := putObj W3.drew g (.cells (spliceA cur3 (i * 3) #[.int .i64 0, .int .i64 0, .int .i64 (now + rfo)]) 138)) hi hg (obj_putObj_eq _ _ _ hz3) (hsz.trans hc3) h1 h2 hrw hbig).1.keeps (fun k hk => ?_), (obj_putObj_ne _ _ _ _ n4).trans (obj_setCell_at _ ((obj_drew _ _).trans u4)), ?_⟩
                  · simp [Value.ownBlock] at hk; subst hk; rw [obj_putObj_eq _ _ _ hgg]; exact (obj_putObj_eq _ _ _ (show g < W3.drew.heap.size from hz3)).symm
                  · exact keeps_putNew (((Keeps.of_below (F := fun k => k = cb) hb3).drew).setCell (a := ⟨cb, 0, none⟩) (.inl rfl) _) hg _)
                clear HN2 HV2 hst keep hrt
                go_region
                all_goals (go_wp2)
                all_goals (go_end0; exact ⟨⟨_, rfl⟩, FIN.out⟩)
              · have hmn : min rfo (4611686018427387903 - now) = (4611686018427387903 - now) := by omega
                rw [hmn] at hput HN2
                have hK2 : 4611686018427387903 - now < rfo := by omega
                have hK4 : IntKind.i64.wrap (4611686018427387903 - now) = 4611686018427387903 - now := by simp [IntKind.wrap, IntKind.signed, IntKind.bits]; omega
                have hK5 : IntKind.i64.wrap (now + (4611686018427387903 - now)) = now + (4611686018427387903 - now) := by simp [IntKind.wrap, IntKind.signed, IntKind.bits]; omega
                clear hmn
                have FIN : Hid (FailPost w s i (nSeat ⟨rf, rlo, rfo, rnu, rde⟩ ⟨xf, xs, xu⟩ now true) cb (!(stays ⟨rf, rlo, rfo, rnu, rde⟩ ⟨xf, xs, xu⟩ now true)) g cap ((putObj (W3.setCell ⟨cb, 0, none⟩ (.bool true)) g (.cells (spliceA cur3 (i * 3) #[.int .i64 0, .int .i64 0, .int .i64 (now + (4611686018427387903 - now))]) 138)).drew)) := Lib.hid (by
                  show FailPost _ _ _ _ _ _ _ _ (putObj (W3.drew.setCell ⟨cb, 0, none⟩ (.bool true)) g (.cells (spliceA cur3 (i * 3) #[.int .i64 0, .int .i64 0, .int .i64 (now + (4611686018427387903 - now))]) 138))
                  rw [HN2.out, hst, if_neg (by decide)]
                  have hsz : (spliceA cur3 (i * 3) #[.int .i64 0, .int .i64 0, .int .i64 (now + (4611686018427387903 - now))]).size = cur3.size := size_spliceA (by simp; omega)
                  have hrw := row_upd (y := ⟨0, 0, now + (4611686018427387903 - now)⟩) (by rw [hl3]; exact hrt) (by rw [hl3]; exact hi) (by rw [hl3]; omega) hsz (fun j j0 j1 j2 => by rw [splice_get _ _ _ _ (by simp; omega), if_neg (by simp; omega)]) (by rw [splice_get _ _ _ _ (by simp; omega), if_pos (by simp)]; simp) (by rw [splice_get _ _ _ _ (by simp; omega), if_pos (by simp)]; simp) (by rw [splice_get _ _ _ _ (by simp; omega), if_pos (by simp)]; simp)
                  rw [hl3, List.set_set] at hrw
                  have hbig : Below w.heap.size w (putObj W3.drew g (.cells (spliceA cur3 (i * 3) #[.int .i64 0, .int .i64 0, .int .i64 (now + (4611686018427387903 - now))]) 138)) := below_putObj hb3.drew hg _
                  have hgg : g < (W3.drew.setCell ⟨cb, 0, none⟩ (.bool true)).heap.size := by simpa using hz3
                  have ng : g ≠ cb := fun e => n4 e.symm
                  refine ⟨(turnPost_of (W' := putObj W3.drew g (.cells (spliceA cur3 (i * 3) #[.int .i64 0, .int .i64 0, .int .i64 (now + (4611686018427387903 - now))]) 138)) hi hg (obj_putObj_eq _ _ _ hz3) (hsz.trans hc3) h1 h2 hrw hbig).1.keeps (fun k hk => ?_), (obj_putObj_ne _ _ _ _ n4).trans (obj_setCell_at _ ((obj_drew _ _).trans u4)), ?_⟩
                  · simp [Value.ownBlock] at hk; subst hk; rw [obj_putObj_eq _ _ _ hgg]; exact (obj_putObj_eq _ _ _ (show g < W3.drew.heap.size from hz3)).symm
                  · exact keeps_putNew (((Keeps.of_below (F := fun k => k = cb) hb3).drew).setCell (a := ⟨cb, 0, none⟩) (.inl rfl) _) hg _)
                clear HN2 HV2 hst keep hrt
                go_region
                all_goals (go_wp2)
                all_goals (go_end0; exact ⟨⟨_, rfl⟩, FIN.out⟩)
          · have hst : (stays ⟨rf, rlo, rfo, rnu, rde⟩ ⟨xf, xs, xu⟩ now room) = true := by rw [HV2.out, hB]; simp
            have FIN : Hid (FailPost w s i (nSeat ⟨rf, rlo, rfo, rnu, rde⟩ ⟨xf, xs, xu⟩ now room) cb (!(stays ⟨rf, rlo, rfo, rnu, rde⟩ ⟨xf, xs, xu⟩ now room)) g cap W3.drew) := Lib.hid (by rw [HN2.out, hst, if_pos rfl]; exact ⟨(keep 0).out.1.drew, (obj_drew _ _).trans (keep 0).out.2.1, (keep 0).out.2.2.drew⟩)
            clear HN2 HV2 hst keep hrt oc hput
            go_region
            all_goals (go_wp2)
            all_goals (refine bodyPost_ret (results_none rfl _ _ _) rfl ?_; exact ⟨⟨_, rfl⟩, FIN.out⟩)
        · have hmx : max (now - S) 0 = now - S := by omega
          have hM3 : 0 ≤ now - S := by omega
          rw [hmx] at HV2
          clear hmx
          cases hB : decide ((now - S) < rlo)
          · cases room
            · have hst : (stays ⟨rf, rlo, rfo, rnu, rde⟩ ⟨xf, xs, xu⟩ now false) = true := by rw [HV2.out]; simp
              have FIN : Hid (FailPost w s i (nSeat ⟨rf, rlo, rfo, rnu, rde⟩ ⟨xf, xs, xu⟩ now false) cb (!(stays ⟨rf, rlo, rfo, rnu, rde⟩ ⟨xf, xs, xu⟩ now false)) g cap W3.drew) := Lib.hid (by rw [HN2.out, hst, if_pos rfl]; exact ⟨(keep 0).out.1.drew, (obj_drew _ _).trans (keep 0).out.2.1, (keep 0).out.2.2.drew⟩)
              clear HN2 HV2 hst keep hrt oc hput
              go_region
              all_goals (go_wp2)
              all_goals (refine bodyPost_ret (results_none rfl _ _ _) rfl ?_; exact ⟨⟨_, rfl⟩, FIN.out⟩)
            · have hst : (stays ⟨rf, rlo, rfo, rnu, rde⟩ ⟨xf, xs, xu⟩ now true) = false := by rw [HV2.out, hA, hB]; rfl
              by_cases hK : rfo ≤ 4611686018427387903 - now
              · have hmn : min rfo (4611686018427387903 - now) = rfo := by omega
                rw [hmn] at hput HN2
                have hK4 : IntKind.i64.wrap (4611686018427387903 - now) = 4611686018427387903 - now := by simp [IntKind.wrap, IntKind.signed, IntKind.bits]; omega
                have hK5 : IntKind.i64.wrap (now + rfo) = now + rfo := by simp [IntKind.wrap, IntKind.signed, IntKind.bits]; omega
                clear hmn
                have FIN : Hid (FailPost w s i (nSeat ⟨rf, rlo, rfo, rnu, rde⟩ ⟨xf, xs, xu⟩ now true) cb (!(stays ⟨rf, rlo, rfo, rnu, rde⟩ ⟨xf, xs, xu⟩ now true)) g cap ((putObj (W3.setCell ⟨cb, 0, none⟩ (.bool true)) g (.cells (spliceA cur3 (i * 3) #[.int .i64 0, .int .i64 0, .int .i64 (now + rfo)]) 138)).drew)) := Lib.hid (by
                  show FailPost _ _ _ _ _ _ _ _ (putObj (W3.drew.setCell ⟨cb, 0, none⟩ (.bool true)) g (.cells (spliceA cur3 (i * 3) #[.int .i64 0, .int .i64 0, .int .i64 (now + rfo)]) 138))
                  rw [HN2.out, hst, if_neg (by decide)]
                  have hsz : (spliceA cur3 (i * 3) #[.int .i64 0, .int .i64 0, .int .i64 (now + rfo)]).size = cur3.size := size_spliceA (by simp; omega)
                  have hrw := row_upd (y := ⟨0, 0, now + rfo⟩) (by rw [hl3]; exact hrt) (by rw [hl3]; exact hi) (by rw [hl3]; omega) hsz (fun j j0 j1 j2 => by rw [splice_get _ _ _ _ (by simp; omega), if_neg (by simp; omega)]) (by rw [splice_get _ _ _ _ (by simp; omega), if_pos (by simp)]; simp) (by rw [splice_get _ _ _ _ (by simp; omega), if_pos (by simp)]; simp) (by rw [splice_get _ _ _ _ (by simp; omega), if_pos (by simp)]; simp)
                  rw [hl3, List.set_set] at hrw
                  have hbig : Below w.heap.size w (putObj W3.drew g (.cells (spliceA cur3 (i * 3) #[.int .i64 0, .int .i64 0, .int .i64 (now + rfo)]) 138)) := below_putObj hb3.drew hg _
                  have hgg : g < (W3.drew.setCell ⟨cb, 0, none⟩ (.bool true)).heap.size := by simpa using hz3
                  have ng : g ≠ cb := fun e => n4 e.symm
                  refine ⟨(turnPost_of (W' := putObj W3.drew g (.cells (spliceA cur3 (i * 3) #[.int .i64 0, .int .i64 0, .int .i64 (now + rfo)]) 138)) hi hg (obj_putObj_eq _ _ _ hz3) (hsz.trans hc3) h1 h2 hrw hbig).1.keeps (fun k hk => ?_), (obj_putObj_ne _ _ _ _ n4).trans (obj_setCell_at _ ((obj_drew _ _).trans u4)), ?_⟩
                  · simp [Value.ownBlock] at hk; subst hk; rw [obj_putObj_eq _ _ _ hgg]; exact (obj_putObj_eq _ _ _ (show g < W3.drew.heap.size from hz3)).symm
                  · exact keeps_putNew (((Keeps.of_below (F := fun k => k = cb) hb3).drew).setCell (a := ⟨cb, 0, none⟩) (.inl rfl) _) hg _)
                clear HN2 HV2 hst keep hrt
                go_region
                all_goals (go_wp2)
                all_goals (go_end0; exact ⟨⟨_, rfl⟩, FIN.out⟩)
              · have hmn : min rfo (4611686018427387903 - now) = (4611686018427387903 - now) := by omega
                rw [hmn] at hput HN2
                have hK2 : 4611686018427387903 - now < rfo := by omega
                have hK4 : IntKind.i64.wrap (4611686018427387903 - now) = 4611686018427387903 - now := by simp [IntKind.wrap, IntKind.signed, IntKind.bits]; omega
                have hK5 : IntKind.i64.wrap (now + (4611686018427387903 - now)) = now + (4611686018427387903 - now) := by simp [IntKind.wrap, IntKind.signed, IntKind.bits]; omega
                clear hmn
                have FIN : Hid (FailPost w s i (nSeat ⟨rf, rlo, rfo, rnu, rde⟩ ⟨xf, xs, xu⟩ now true) cb (!(stays ⟨rf, rlo, rfo, rnu, rde⟩ ⟨xf, xs, xu⟩ now true)) g cap ((putObj (W3.setCell ⟨cb, 0, none⟩ (.bool true)) g (.cells (spliceA cur3 (i * 3) #[.int .i64 0, .int .i64 0, .int .i64 (now + (4611686018427387903 - now))]) 138)).drew)) := Lib.hid (by
                  show FailPost _ _ _ _ _ _ _ _ (putObj (W3.drew.setCell ⟨cb, 0, none⟩ (.bool true)) g (.cells (spliceA cur3 (i * 3) #[.int .i64 0, .int .i64 0, .int .i64 (now + (4611686018427387903 - now))]) 138))
                  rw [HN2.out, hst, if_neg (by decide)]
                  have hsz : (spliceA cur3 (i * 3) #[.int .i64 0, .int .i64 0, .int .i64 (now + (4611686018427387903 - now))]).size = cur3.size := size_spliceA (by simp; omega)
                  have hrw := row_upd (y := ⟨0, 0, now + (4611686018427387903 - now)⟩) (by rw [hl3]; exact hrt) (by rw [hl3]; exact hi) (by rw [hl3]; omega) hsz (fun j j0 j1 j2 => by rw [splice_get _ _ _ _ (by simp; omega), if_neg (by simp; omega)]) (by rw [splice_get _ _ _ _ (by simp; omega), if_pos (by simp)]; simp) (by rw [splice_get _ _ _ _ (by simp; omega), if_pos (by simp)]; simp) (by rw [splice_get _ _ _ _ (by simp; omega), if_pos (by simp)]; simp)
                  rw [hl3, List.set_set] at hrw
                  have hbig : Below w.heap.size w (putObj W3.drew g (.cells (spliceA cur3 (i * 3) #[.int .i64 0, .int .i64 0, .int .i64 (now + (4611686018427387903 - now))]) 138)) := below_putObj hb3.drew hg _
                  have hgg : g < (W3.drew.setCell ⟨cb, 0, none⟩ (.bool true)).heap.size := by simpa using hz3
                  have ng : g ≠ cb := fun e => n4 e.symm
                  refine ⟨(turnPost_of (W' := putObj W3.drew g (.cells (spliceA cur3 (i * 3) #[.int .i64 0, .int .i64 0, .int .i64 (now + (4611686018427387903 - now))]) 138)) hi hg (obj_putObj_eq _ _ _ hz3) (hsz.trans hc3) h1 h2 hrw hbig).1.keeps (fun k hk => ?_), (obj_putObj_ne _ _ _ _ n4).trans (obj_setCell_at _ ((obj_drew _ _).trans u4)), ?_⟩
                  · simp [Value.ownBlock] at hk; subst hk; rw [obj_putObj_eq _ _ _ hgg]; exact (obj_putObj_eq _ _ _ (show g < W3.drew.heap.size from hz3)).symm
                  · exact keeps_putNew (((Keeps.of_below (F := fun k => k = cb) hb3).drew).setCell (a := ⟨cb, 0, none⟩) (.inl rfl) _) hg _)
                clear HN2 HV2 hst keep hrt
                go_region
                all_goals (go_wp2)
                all_goals (go_end0; exact ⟨⟨_, rfl⟩, FIN.out⟩)
          · have hst : (stays ⟨rf, rlo, rfo, rnu, rde⟩ ⟨xf, xs, xu⟩ now room) = true := by rw [HV2.out, hB]; simp
            have FIN : Hid (FailPost w s i (nSeat ⟨rf, rlo, rfo, rnu, rde⟩ ⟨xf, xs, xu⟩ now room) cb (!(stays ⟨rf, rlo, rfo, rnu, rde⟩ ⟨xf, xs, xu⟩ now room)) g cap W3.drew) := Lib.hid (by rw [HN2.out, hst, if_pos rfl]; exact ⟨(keep 0).out.1.drew, (obj_drew _ _).trans (keep 0).out.2.1, (keep 0).out.2.2.drew⟩)
            clear HN2 HV2 hst keep hrt oc hput
            go_region
            all_goals (go_wp2)
            all_goals (refine bodyPost_ret (results_none rfl _ _ _) rfl ?_; exact ⟨⟨_, rfl⟩, FIN.out⟩)
      · have hst : (stays ⟨rf, rlo, rfo, rnu, rde⟩ ⟨xf, xs, xu⟩ now room) = true := by rw [HV2.out]; simp [hA]
        have FIN : Hid (FailPost w s i (nSeat ⟨rf, rlo, rfo, rnu, rde⟩ ⟨xf, xs, xu⟩ now room) cb (!(stays ⟨rf, rlo, rfo, rnu, rde⟩ ⟨xf, xs, xu⟩ now room)) g cap W3.drew) := Lib.hid (by rw [HN2.out, hst, if_pos rfl]; exact ⟨(keep 0).out.1.drew, (obj_drew _ _).trans (keep 0).out.2.1, (keep 0).out.2.2.drew⟩)
        clear HN2 HV2 hst keep hrt oc hput
        go_region
        all_goals (go_wp2)
        all_goals (refine bodyPost_ret (results_none rfl _ _ _) rfl ?_; exact ⟨⟨_, rfl⟩, FIN.out⟩)
end Go.Proofs.YtagpclgappcnbaaGreat.Be
