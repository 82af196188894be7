import Derived.Test.YtagpclgappcnbaaGreatBkU
import Derived.Test.YtagpclgappcnbaaGreatBkM
import Derived.Test.YtagpclgappcnbaaGreatBkO
import Derived.BigQuiet
import Derived.LoopTactic
import Derived.Test.YtagpclgappcnbaaGreatBkX
namespace Go.Proofs.YtagpclgappcnbaaGreat
open Go.RowKit

instance : DecidableEq Ak.AskD := fun a b => decidable_of_iff (a.id = b.id ∧ a.node = b.node ∧ a.kind = b.kind) ⟨fun h => by cases a; cases b; simp_all, fun h => by subst h; exact ⟨rfl, rfl, rfl⟩⟩
theorem sub3 {w : World} {b o : Nat} {x y z : Value} (h : subOf (obj w b) o 3 = some #[x, y, z]) : w.cell? ⟨b, o, none⟩ = some x ∧ w.cell? ⟨b, o + 1, none⟩ = some y ∧ w.cell? ⟨b, o + 2, none⟩ = some z :=
  ⟨by simpa using subOf_cell h (j := 0) (by decide), by simpa using subOf_cell h (j := 1) (by decide), by simpa using subOf_cell h (j := 2) (by decide)⟩
set_option maxRecDepth 100000 in
set_option maxHeartbeats 1000000 in
theorem equalA (w : World) (v1 v2 : Value) (xs ys : List Ak.AskD) (h : SlIn w v1 3 akL xs) (h' : SlIn w v2 3 akL ys) :
    Calls Tryz.prog 20 #[v1, v2] w fun e w' => e = .returned (.bool (decide (xs = ys))) ∧ Below w.heap.size w w' := by
  obtain ⟨oa, cap, rfl, h1, h2, h3⟩ := h
  obtain ⟨ob, cap', rfl, h1', h2', h3'⟩ := h'
  unfold maxLen at h2 h2'
  have H3 := Lib.hid h3
  have H3' := Lib.hid h3'
  clear h3 h3'
  by_cases hll : xs.length = ys.length
  · have hb0 : ((xs.length : Int) != (ys.length : Int)) = false := by simp [hll]
    have HLL := Lib.hid hll
    clear hll
    go_enter Tryz.func20, Tryz.ntmps20
    go_wp2
    go_loopw [5, 13] (fun _ v13 wr => ∃ k : Nat, k ≤ xs.length ∧ v13 = .int .i64 k ∧ Hid (∀ j (h1 : j < xs.length) (h2 : j < ys.length), j < k → xs[j] = ys[j]) ∧ Below w.heap.size w wr) (fun _ i _ => xs.length - (intOf i).toNat)
    case atStart => exact ⟨0, Nat.zero_le _, rfl, Lib.hid (by omega), Below.refl _ _⟩
    case round =>
      obtain ⟨k, hk, rfl, HK, hb⟩ := hrel
      by_cases hlt : k < xs.length
      · have hlt' : k < ys.length := by have := HLL.out; omega
        obtain ⟨b, off, hoa, hbb, hrow⟩ := H3.out (by omega)
        obtain ⟨b', off', hoa', hbb', hrow'⟩ := H3'.out (by omega)
        subst hoa
        subst hoa'
        have hs1 := hrow k hlt
        have hs2 := hrow' k hlt'
        rw [← obj_below hb hbb] at hs1
        rw [← obj_below hb hbb'] at hs2
        have hbl : b < wr.heap.size := Nat.lt_of_lt_of_le hbb hb.size
        have hbl' : b' < wr.heap.size := Nat.lt_of_lt_of_le hbb' hb.size
        have NX : Hid (xs[k] = ys[k] → ∀ j (h1 : j < xs.length) (h2 : j < ys.length), j < k + 1 → xs[j] = ys[j]) := Lib.hid (fun h j h1 h2 hlt' => by
            by_cases e : j = k
            · subst e; exact h
            · exact HK.out j h1 h2 (by omega))
        have NO : Hid (xs[k] ≠ ys[k] → xs ≠ ys) := Lib.hid (fun h e => h (by subst e; rfl))
        generalize xs[k] = x at *
        generalize ys[k] = y at *
        obtain ⟨x1, x2, x3⟩ := x
        obtain ⟨y1, y2, y3⟩ := y
        clear hrow hrow'
        simp only [akL] at hs1 hs2
        obtain ⟨d0, d1, d2⟩ := sub3 hs1
        obtain ⟨d0', d1', d2'⟩ := sub3 hs2
        clear hs1 hs2
        by_cases hxy : x1 = y1 ∧ x2 = y2 ∧ x3 = y3
        · obtain ⟨rfl, rfl, rfl⟩ := hxy
          have HN := Lib.hid (NX.out rfl)
          have e1 : (x1 == x1) = true := by simp
          have e2 : (x2 == x2) = true := by simp
          have e3 : (x3 == x3) = true := by simp
          go_wp2
          go_quiet (fail)
          go_wp2
          go_roundw
          case rel => exact ⟨k + 1, by omega, by go_num, HN, below_drewN hb _⟩
          case measure => simp [intOf]; omega
        · have HN := Lib.hid (NO.out (fun e => hxy (by simpa using e)))
          by_cases e1 : x1 = y1
          · subst e1
            by_cases e2 : x2 = y2
            · subst e2
              have e3 : (x3 == y3) = false := by simpa using fun e => hxy ⟨rfl, rfl, e⟩
              clear hxy
              go_wp2
              go_quiet (fail)
              go_wp2
              go_ret
              exact ⟨ret_bool (by simpa using HN.out), below_drewN hb _⟩
            · have e2' : (x2 == y2) = false := by simpa using e2
              clear hxy e2
              go_wp2
              go_quiet (fail)
              go_wp2
              go_ret
              exact ⟨ret_bool (by simpa using HN.out), below_drewN hb _⟩
          · have e1' : (x1 == y1) = false := by simpa using e1
            clear hxy e1
            go_wp2
            go_quiet (fail)
            go_wp2
            go_ret
            exact ⟨ret_bool (by simpa using HN.out), below_drewN hb _⟩
      · have hk' : k = xs.length := by omega
        subst hk'
        go_wp2
        go_ret
        exact ⟨ret_bool (by simpa using List.ext_getElem HLL.out (fun j h1 h2 => HK.out j h1 h2 h1)), hb⟩
  · have hb0 : ((xs.length : Int) != (ys.length : Int)) = true := by simp; omega
    have HN : Hid (xs ≠ ys) := Lib.hid (fun e => hll (by rw [e]))
    clear hll
    go_enter Tryz.func20, Tryz.ntmps20
    go_wp2
    go_ret
    exact ⟨ret_bool (by simpa using HN.out), Below.refl _ _⟩
set_option maxRecDepth 100000 in
theorem benched_none (w : World) (q : Value) (v : Int) (h : NoneB w q) : Calls Tryz.prog 48 #[q, .int .i64 v] w fun e w' => e = .returned (.bool false) ∧ Below w.heap.size w w' := by
  have H : Hid (∀ y : Later w, Calls Tryz.prog 50 #[q] y.w fun e w' => e = .returned (.bool true) ∧ Below y.w.heap.size y.w w') := Lib.hid (fun y => (none_none y.w q (h.below y.h)).mono (by rintro e w' ⟨rfl, rfl⟩; exact ⟨rfl, Below.refl _ _⟩))
  obtain ⟨a, rfl⟩ := h.ptr
  clear h
  go_enter Tryz.func48, Tryz.ntmps48
  go_wp2_with fail
  refine wp_region_later w (Below.refl _ w) (by kernel_rfl) (by kernel_rfl) ?_
  repeat (go_big_quiet_step (first | (go_at_call 50; with_reducible exact Calls.later (H.out _))))
  refine wpQuiet_nil ?_
  rintro W ⟨y, rfl⟩
  go_wp2
  go_ret
  exact ⟨rfl, y.h⟩
end Go.Proofs.YtagpclgappcnbaaGreat
namespace Go.Proofs.YtagpclgappcnbaaGreat
open Go.RowKit

/-! ### a book that was made, and what lies beside it -/
def Free (F : Nat → Prop) (b : Nat) (p : PD) (n : Nat) : Prop := ¬ Own F b p n ∧ (∀ a, p.la = some a → a.block ≠ n) ∧ ∀ a, p.sa = some a → a.block ≠ n
structure BkAt (W : World) (X : Nat → Prop) (b : Nat) (M : PM) : Prop where
  inv : PInv M
  lt : ∀ n, X n → n < W.heap.size
  ex : ∃ F p, PeerAt W F b p M ∧ ∀ n, X n → Free F b p n
theorem BkAt.blt {W : World} {X : Nat → Prop} {b : Nat} {M : PM} (h : BkAt W X b M) : b < W.heap.size := by
  obtain ⟨F, p, h1, _⟩ := h.ex
  exact h1.lt
theorem BkAt.below {W W' : World} {X : Nat → Prop} {b : Nat} {M : PM} (h : BkAt W X b M) (hb : Below W.heap.size W W') : BkAt W' X b M := by
  obtain ⟨F, p, h1, h2⟩ := h.ex
  exact ⟨h.inv, fun n hn => by have := h.lt n hn; have := hb.size; omega, F, p, h1.below hb, h2⟩
theorem BkAt.mono {W : World} {X Y : Nat → Prop} {b : Nat} {M : PM} (h : BkAt W X b M) (hy : ∀ n, Y n → X n) : BkAt W Y b M := by
  obtain ⟨F, p, h1, h2⟩ := h.ex
  exact ⟨h.inv, fun n hn => h.lt n (hy n hn), F, p, h1, fun n hn => h2 n (hy n hn)⟩
/-- blocks made since lie beside the book -/
theorem BkAt.more {W W' : World} {X : Nat → Prop} {b : Nat} {M : PM} (h : BkAt W X b M) (hb : Below W.heap.size W W') : BkAt W' (fun n => X n ∨ (W.heap.size ≤ n ∧ n < W'.heap.size)) b M := by
  obtain ⟨F, p, h1, h2⟩ := h.ex
  refine ⟨h.inv, fun n hn => ?_, F, p, h1.below hb, fun n hn => ?_⟩
  · rcases hn with hn | hn
    · have := h.lt n hn; have := hb.size; omega
    · exact hn.2
  · rcases hn with hn | hn
    · exact h2 n hn
    · have hp := h.inv.pok
      refine ⟨fun ho => by have := h1.own_lt ho; omega, fun a e => ?_, fun a e => ?_⟩
      · have := h1.l.blk hp.l e; omega
      · have := h1.seats.blk hp.s e; omega
/-- what lies beside the book changes -/
theorem BkAt.beside {W W' : World} {X : Nat → Prop} {b : Nat} {M : PM} (h : BkAt W X b M) (hk : Keeps X W W') : BkAt W' X b M := by
  obtain ⟨F, p, h1, h2⟩ := h.ex
  have hp := h.inv.pok
  refine ⟨h.inv, fun n hn => Nat.lt_of_lt_of_le (h.lt n hn) hk.size, F, p, ?_, h2⟩
  exact h1.keep hk (fun n hn => (h2 n hn).1) (fun a e hx => (h2 _ hx).2.1 a e rfl) (fun a e hx => (h2 _ hx).2.2 a e rfl) (fun a e => h1.l.blk hp.l e) (fun a e => h1.seats.blk hp.s e)
theorem free_after {w : World} {X F : Nat → Prop} {b : Nat} {p p' : PD} (hx : ∀ n, X n → Free F b p n) (hlt : ∀ n, X n → n < w.heap.size) (hs : SameN w p p') : ∀ n, X n → Free F b p' n := fun n hn => by
  obtain ⟨h1, h2, h3⟩ := hx n hn
  refine ⟨fun ho => h1 (hs.1.own.1 ho), fun a e => h2 a (by rw [← hs.1.2.2.2.2.2.1]; exact e), fun a e => ?_⟩
  rcases hs.2 a e with e | e
  · exact h3 a e
  · have := hlt n hn; omega
theorem ask_bk (W : World) (X : Nat → Prop) (b : Nat) (M : PM) (v kind now : Int) (h : BkAt W X b M) : Calls Tryz.prog 14 #[.pointer (some ⟨b, 0, none⟩), .int .i64 v, .int .i64 kind, .int .i64 now] W fun e w' =>
    e = .returned (.tuple #[.int .i64 (askP M v kind now).2.1, .bool (askP M v kind now).2.2.1, .int .i64 (askP M v kind now).2.2.2]) ∧ BkAt w' X b (askP M v kind now).1 ∧ Keeps (fun n => ¬ X n) W w' := by
  obtain ⟨F, p, h1, h2⟩ := h.ex
  refine (ask_any W F b p M v kind now h1 h.inv.pok).mono ?_
  rintro e w' ⟨rfl, ⟨F', h3, h4⟩, hk⟩
  refine ⟨rfl, ⟨h.inv.askP v kind now, fun n hn => Nat.lt_of_lt_of_le (h.lt n hn) hk.size, F', p, h3, fun n hn => ?_⟩, hk.mono fun n hn hx => (h2 n hx).1 hn⟩
  obtain ⟨g1, g2⟩ := h2 n hn
  refine ⟨fun ho => g1 ?_, g2⟩
  rcases ho with ho | ho
  · rcases h4 n ho with ho | ho
    · exact .inl ho
    · have := h.lt n hn; omega
  · exact .inr ho
theorem got_bk (W : World) (X : Nat → Prop) (b : Nat) (M : PM) (v id kind now : Int) (h : BkAt W X b M) : Calls Tryz.prog 18 #[.pointer (some ⟨b, 0, none⟩), .int .i64 v, .int .i64 id, .int .i64 kind, .int .i64 now] W fun e w' =>
    e = .returned (.tuple #[Ak.askV (gotP M v id kind now).2.1, .int .i64 (gotP M v id kind now).2.2]) ∧ BkAt w' X b (gotP M v id kind now).1 ∧ Keeps (fun n => ¬ X n) W w' := by
  obtain ⟨F, p, h1, h2⟩ := h.ex
  refine (got_any W F b p M v id kind now h1 h.inv.pok h.inv.may (fun hE => ?_)).mono ?_
  · obtain ⟨a, _, _, _, g1, g2, _⟩ := PInvW.got h.inv hE
    have := PInvW.seats_len h.inv
    exact ⟨v.toNat, by omega, by omega⟩
  · rintro e w' ⟨rfl, ⟨p', h3, h4⟩, hk⟩
    exact ⟨rfl, ⟨h.inv.gotP v id kind now, fun n hn => Nat.lt_of_lt_of_le (h.lt n hn) hk.size, F, p', h4, free_after h2 h.lt h3⟩, hk.mono fun n hn hx => (h2 n hx).1 hn⟩
theorem tick_bk (W : World) (X : Nat → Prop) (b : Nat) (M : PM) (now : Int) (h : BkAt W X b M) : Calls Tryz.prog 15 #[.pointer (some ⟨b, 0, none⟩), .int .i64 now] W fun e w' =>
    ∃ v, e = .returned (.tuple #[v, .int .i64 (tickP M now).2.2]) ∧ OwnS w' W.heap.size 66 3 akL v (tickP M now).2.1 ∧ BkAt w' X b (tickP M now).1 ∧ Keeps (fun n => ¬ X n) W w' := by
  obtain ⟨F, p, h1, h2⟩ := h.ex
  have hp := h.inv.pok
  refine (tick_any W F b p M now h1 (fun hE => (PInvW.tickF (h.inv.tick0 hE)).1) hp.l hp.s).mono ?_
  rintro e w' ⟨v, rfl, ho, ⟨p', h3, h4⟩, hk⟩
  exact ⟨v, rfl, ho, ⟨h.inv.tickP now, fun n hn => Nat.lt_of_lt_of_le (h.lt n hn) hk.size, F, p', h4, free_after h2 h.lt h3⟩, hk.mono fun n hn hx => (h2 n hx).1 hn⟩
/-! ### what only tells -/
section
variable (W : World) (X : Nat → Prop) (b : Nat) (M : PM) (h : BkAt W X b M)
include h
theorem timeout_bk : Calls Tryz.prog 19 #[.pointer (some ⟨b, 0, none⟩)] W fun e w' => e = .returned (.int .i64 (Me.tmoR M.cfg.r M.wait)) ∧ Below W.heap.size W w' := by
  obtain ⟨F, p, h1, _⟩ := h.ex
  exact timeout_any W F b p M h1
theorem benched_bk (v : Int) : Calls Tryz.prog 48 #[.pointer (some ⟨b, 0, none⟩), .int .i64 v] W fun e w' => e = .returned (.bool (Be.isB M.seats v M.now)) ∧ Below W.heap.size W w' := by
  obtain ⟨F, p, h1, _⟩ := h.ex
  exact benched_any W F b p M v h1
theorem due_bk (id : Int) : Calls Tryz.prog 40 #[.pointer (some ⟨b, 0, none⟩), .int .i64 id] W fun e w' => e = .returned (.tuple #[.int .i64 (Al.atT M.W id), .int .i64 (Al.dropE M.W id)]) ∧ w' = W := by
  obtain ⟨F, p, h1, _⟩ := h.ex
  exact due_any W F b p M id h1
theorem next_bk : Calls Tryz.prog 42 #[.pointer (some ⟨b, 0, none⟩)] W fun e w' => e = .returned (.tuple #[.int .i64 (Al.at' M.W 0).1, .int .i64 (Al.peekE M.W)]) ∧ Below W.heap.size W w' := by
  obtain ⟨F, p, h1, _⟩ := h.ex
  exact next_any W F b p M h1
theorem now_bk : Calls Tryz.prog 44 #[.pointer (some ⟨b, 0, none⟩)] W fun e w' => e = .returned (.int .i64 M.now) ∧ w' = W := by
  obtain ⟨F, p, h1, _⟩ := h.ex
  exact now_any W F b p M h1
theorem len_bk : Calls Tryz.prog 45 #[.pointer (some ⟨b, 0, none⟩)] W fun e w' => e = .returned (.int .i64 M.A.L.length) ∧ Below W.heap.size W w' := by
  obtain ⟨F, p, h1, _⟩ := h.ex
  exact len_any W F b p M h1
theorem stat_bk : Calls Tryz.prog 46 #[.pointer (some ⟨b, 0, none⟩)] W fun e w' => e = .returned (.agg #[.int .i64 M.A.asked, .int .i64 M.A.ans, .int .i64 M.A.exp]) ∧ Below W.heap.size W w' := by
  obtain ⟨F, p, h1, _⟩ := h.ex
  exact stat_any W F b p M h1
end
/-! ### a new book -/
theorem newE_0 {c : CfgD} {l : List Be.Vd} {now : Int} (h : newE c l now = 0) : pchkE c = 0 ∧ Be.chk l = 0 ∧ 0 ≤ now ∧ now ≤ 4611686018427387903 := by
  unfold newE at h
  split at h
  · rename_i h1; exact absurd h h1
  · rename_i h1
    split at h
    · rename_i h2; exact absurd h h2
    · rename_i h2
      split at h
      · cases h
      · exact ⟨by omega, by omega, by omega, by omega⟩
theorem PInv.new {c : CfgD} {l : List Be.Vd} {now : Int} (h : newE c l now = 0) (hde : c.q.de < 9223372036854775808) : PInv (newM c l now) := by
  obtain ⟨h1, h2, h3, h4⟩ := newE_0 h
  obtain ⟨r1, r2, r3, r4⟩ := pchk_0 h1
  have hn := Me.newV_bd r3
  refine ⟨?_, ⟨r3, hn.1, hn.2, h3, h4⟩, Int.le_refl _, h3, h4, hde, fun p hp => (by cases hp), List.nodup_nil, List.nodup_nil, fun k => rfl, fun x hx => (by cases hx), r2, ?_, rfl, ⟨Int.le_refl _, by show (0 : Int) ≤ 2147483647; omega⟩, Int.le_refl _, ⟨Int.le_refl _, Int.le_refl _⟩⟩
  · unfold Be.mayE
    show (if Be.ruleE c.q = 0 ∧ Be.chk l = 0 ∧ (List.replicate l.length (⟨0, 0, 0⟩ : Be.St)).length = l.length ∧ (List.replicate l.length (⟨0, 0, 0⟩ : Be.St)).all Be.mayB = true then (0 : Int) else 150) = 0
    have hall : (List.replicate l.length (⟨0, 0, 0⟩ : Be.St)).all Be.mayB = true := by
      rw [List.all_eq_true]
      intro x hx
      rw [List.eq_of_mem_replicate hx]
      decide
    rw [if_pos ⟨r4, h2, by simp, hall⟩]
  · show (0 : Int) ≤ c.room
    omega
theorem new_bk (W : World) (c : CfgD) (v : Value) (l : List Be.Vd) (now : Int) (h : SlIn W v 2 Be.vdL l) (hde : c.q.de < 9223372036854775808) : Calls Tryz.prog 6 #[.agg (cfgC c), v, .int .i64 now] W fun e w' =>
    Below W.heap.size W w' ∧ (newE c l now ≠ 0 → e = .returned (.tuple #[.pointer none, .int .i64 (newE c l now)])) ∧ (newE c l now = 0 → ∃ b, e = .returned (.tuple #[.pointer (some ⟨b, 0, none⟩), .int .i64 0]) ∧ BkAt w' (fun n => n < W.heap.size) b (newM c l now)) := by
  refine (new_any W c v l now h).mono ?_
  rintro e w' ⟨h1, h2, h3⟩
  refine ⟨h1, h2, fun h0 => ?_⟩
  obtain ⟨⟨b, p, F, rfl, g1, g2, g3, g4⟩⟩ := h3 h0
  exact ⟨b, rfl, PInv.new h0 hde, fun n hn => Nat.lt_of_lt_of_le hn h1.size, F, p, g1, fun n hn => ⟨fun ho => by have := g2 n ho; omega, fun a e => by have := g3 a e; omega, fun a e => by have := g4 a e; omega⟩⟩
end Go.Proofs.YtagpclgappcnbaaGreat
namespace Go.Proofs.YtagpclgappcnbaaGreat
open Go.RowKit
theorem som_ok : Me.RuleOk som.r := by unfold Me.RuleOk som; simp
theorem som_pchk : pchkE som = 0 := by
  have h : mchk som.r = 0 := by unfold mchk; rw [if_pos som_ok]
  unfold pchkE
  rw [h]
  decide
theorem thr_chk : Be.chk thr = 0 := by kernel_rfl
theorem som_new : newE som thr 0 = 0 := by unfold newE; rw [som_pchk, thr_chk]; decide
def P0 : PM := ⟨som, thr, 0, ⟨57, 0⟩, [⟨0, 0, 0⟩, ⟨0, 0, 0⟩, ⟨0, 0, 0⟩], [], ⟨9, 0, [], 0, 0, 0⟩, []⟩
def P1 : PM := ⟨som, thr, 0, ⟨57, 0⟩, [⟨0, 0, 0⟩, ⟨0, 0, 0⟩, ⟨0, 0, 0⟩], [(1, 0)], ⟨9, 1, [(1, ⟨1, 1, 7⟩)], 1, 0, 0⟩, [(8, 1)]⟩
def P2 : PM := ⟨som, thr, 2, ⟨38, 2⟩, [⟨0, 0, 0⟩, ⟨0, 0, 0⟩, ⟨0, 0, 0⟩], [], ⟨9, 1, [], 1, 1, 0⟩, []⟩
def P3 : PM := ⟨som, thr, 2, ⟨38, 2⟩, [⟨0, 0, 0⟩, ⟨0, 0, 0⟩, ⟨0, 0, 0⟩], [(2, 2)], ⟨9, 2, [(2, ⟨2, 1, 7⟩)], 2, 1, 0⟩, [(7, 2)]⟩
def P4 : PM := ⟨som, thr, 6, ⟨38, 2⟩, [⟨0, 0, 0⟩, ⟨0, 0, 0⟩, ⟨0, 0, 0⟩], [(2, 2)], ⟨9, 2, [(2, ⟨2, 1, 7⟩)], 2, 1, 0⟩, [(7, 2)]⟩
theorem e0 : newM som thr 0 = P0 := by kernel_rfl
theorem t0 : Me.tmoR som.r ⟨57, 0⟩ = 8 := by
  unfold Me.tmoR
  rw [if_pos ⟨som_ok, by simp [som]⟩]
  kernel_rfl
theorem t2 : Me.tmoR som.r ⟨38, 2⟩ = 5 := by
  unfold Me.tmoR
  rw [if_pos ⟨som_ok, by simp [som]⟩]
  kernel_rfl
theorem e1 : askP P0 1 7 0 = (P1, 1, false, 0) := by
  have hat : askAt P0 0 = 8 := by unfold askAt; show min (IntKind.i64.wrap (0 + Me.tmoR som.r ⟨57, 0⟩)) _ = _; rw [t0]; kernel_rfl
  unfold askP
  rw [hat]
  rfl
theorem e2 : gotP P1 1 1 8 2 = (P2, ⟨1, 1, 7⟩, 0) := by
  have hb : Me.obsR som.r ⟨57, 0⟩ 2 2 = (⟨38, 2⟩, 0) := by
    unfold Me.obsR
    rw [if_pos ⟨som_ok, by simp [som]⟩, if_pos (by decide)]
    rfl
  have ho : tookO { P1 with now := 2, A := Ak.ansS P1.A 1 1 8, W := Al.dropW P1.W 1 } 1 = (⟨38, 2⟩, 0) := by
    rw [← hb]; rfl
  unfold gotP gotM tookM
  rw [ho]
  rfl
theorem e3 : (askP P2 1 7 2).1 = P3 := by
  have hat : askAt P2 2 = 7 := by unfold askAt; show min (IntKind.i64.wrap (2 + Me.tmoR som.r ⟨38, 2⟩)) _ = _; rw [t2]; kernel_rfl
  unfold askP
  rw [hat]
  rfl
theorem e4 : tickP P3 6 = (P4, [], 0) := by unfold tickP; rfl
theorem e5 : (tickP P4 7).2 = ([⟨2, 1, 7⟩], 0) := by unfold tickP; rfl
theorem keepsX {w W : World} {B : Nat} (h : Keeps (fun n => ¬ n < B) w W) (hB : B ≤ w.heap.size) : Below B w W := h.below (fun _ hk => by omega) hB
set_option maxRecDepth 100000 in
set_option maxHeartbeats 2000000 in
theorem begun_any (w : World) : Calls Tryz.prog 4 #[] w fun e w' => e = .returned (.bool true) ∧ Below w.heap.size w w' := by
  have HT := Lib.hid (fun W => three_any W)
  have HS := Lib.hid (fun W => some_any W)
  have HN := Lib.hid (fun W v h => new_bk W som v thr 0 h (by decide))
  rw [som_new, e0] at HN
  generalize hc : cfgC som = cs at *
  clear hc
  go_enter Tryz.func4, Tryz.ntmps4
  go_wp2_with fail
  refine (HS.out w).mono ?_
  rintro e w1 ⟨rfl, b1⟩
  go_wp2_with fail
  refine (HT.out w1).mono ?_
  rintro e w2 ⟨v, rfl, sl2, b2⟩
  have B2 := Lib.hid (b1.trans (b2.mono b1.size))
  have SL := Lib.hid sl2
  obtain ⟨oav, capv, ev, -⟩ := sl2
  subst ev
  clear b1 b2
  go_wp2_with fail
  refine (HN.out w2 _ SL.out).mono ?_
  rintro e w3 ⟨b3, -, h3⟩
  obtain ⟨b, rfl, hb3⟩ := h3 trivial
  have B3 := Lib.hid (B2.out.trans (b3.mono B2.out.size))
  have K3 := Lib.hid (hb3.mono (Y := fun n => n < w.heap.size) fun n hn => Nat.lt_of_lt_of_le hn B2.out.size)
  clear b3 h3 hb3 B2 SL HN HT HS
  have HA := Lib.hid (ask_bk w3 _ b P0 1 7 0 K3.out)
  rw [e1] at HA
  go_wp2_with fail
  refine HA.out.mono ?_
  rintro e w4 ⟨rfl, h4, k4⟩
  have K4 := Lib.hid h4
  have B4 := Lib.hid (B3.out.trans (keepsX k4 B3.out.size))
  clear h4 k4 HA B3 K3
  have HG := Lib.hid (got_bk w4 _ b P1 1 1 8 2 K4.out)
  rw [e2] at HG
  go_wp2_with fail
  refine HG.out.mono ?_
  rintro e w5 ⟨rfl, h5, k5⟩
  have B5 := Lib.hid (B4.out.trans (keepsX k5 B4.out.size))
  have b6 : Below w5.heap.size w5 (w5.alloc (.cells #[.int .i64 1, .int .i64 1, .int .i64 7] 66)) := (Below.refl _ _).alloc (Nat.le_refl _) _
  have K6 := Lib.hid (h5.below b6)
  have B6 := Lib.hid (B5.out.trans (b6.mono B5.out.size))
  have O6 := Lib.hid (show obj (w5.alloc (.cells #[.int .i64 1, .int .i64 1, .int .i64 7] 66)) w5.heap.size = some (.cells #[.int .i64 1, .int .i64 1, .int .i64 7] 66 (0, 0)) from obj_alloc_at _ _ _ rfl)
  have HTM := Lib.hid (fun W hW => timeout_bk W _ b P2 (K6.out.below hW))
  rw [show P2.cfg.r = som.r from rfl, show P2.wait = ⟨38, 2⟩ from rfl, t2] at HTM
  clear h5 k5 b6 HG B4 K4 B5
  simp only [Ak.askV]
  go_wp2_with fail
  generalize w5.alloc (.cells #[.int .i64 1, .int .i64 1, .int .i64 7] 66) = w6 at *
  generalize w5.heap.size = xb at *
  refine (HTM.out _ (Below.refl _ _)).mono ?_
  rintro e w7 ⟨rfl, b7⟩
  have K7 := Lib.hid (K6.out.below b7)
  have B7 := Lib.hid (B6.out.trans (b7.mono B6.out.size))
  clear b7 HTM K6 B6 O6
  have HA := Lib.hid (ask_bk w7 _ b P2 1 7 2 K7.out)
  rw [e3] at HA
  go_wp2_with fail
  refine HA.out.mono ?_
  rintro e w8 ⟨rfl, h8, k8⟩
  have K8 := Lib.hid h8
  have B8 := Lib.hid (B7.out.trans (keepsX k8 B7.out.size))
  clear h8 k8 HA B7 K7
  have HK := Lib.hid (tick_bk w8 _ b P3 6 K8.out)
  rw [e4] at HK
  go_wp2_with fail
  refine HK.out.mono ?_
  rintro e w9 ⟨xv, rfl, o9, h9, k9⟩
  have K9 := Lib.hid h9
  have B9 := Lib.hid (B8.out.trans (keepsX k9 B8.out.size))
  obtain ⟨oax, capx, ex⟩ := o9.slice
  subst ex
  clear h9 k9 HK B8 K8 o9
  have HK := Lib.hid (tick_bk w9 _ b P4 7 K9.out)
  rw [e5] at HK
  go_wp2_with fail
  refine HK.out.mono ?_
  rintro e w10 ⟨yv, rfl, o10, -, k10⟩
  have B10 := Lib.hid (B9.out.trans (keepsX k10 B9.out.size))
  have O10 := Lib.hid o10
  obtain ⟨oay, capy, ey⟩ := o10.slice
  subst ey
  clear k10 HK B9 K9 o10
  have hrow := hide_row50 ⟨2, 1, 7⟩ w10
  have b11 : Below w10.heap.size w10 (w10.alloc (.cells #[.int .i64 2, .int .i64 1, .int .i64 7] 66)) := (Below.refl _ _).alloc (Nat.le_refl _) _
  have S11 : SlIn (w10.alloc (.cells #[.int .i64 2, .int .i64 1, .int .i64 7] 66)) (.slice (some ⟨w10.heap.size, 0, none⟩) 1 1) 3 akL [⟨2, 1, 7⟩] := SlIn.of_cells (E := 66) (fr := (0, 0)) akL_length [⟨2, 1, 7⟩] (by exact obj_alloc_at _ _ _ rfl) (by simp [maxLen])
  have HE := Lib.hid (equalA _ _ _ _ _ ((O10.out.slIn akL_length).below b11) S11)
  have B11 := Lib.hid (B10.out.trans (b11.mono B10.out.size))
  simp only [decide_true] at HE
  clear b11 S11
  go_wp2_with fail
  refine HE.out.mono ?_
  rintro e w12 ⟨rfl, b12⟩
  have B12 := Lib.hid (B11.out.trans (b12.mono B11.out.size))
  clear b12
  go_wp2_with fail
  go_ret
  exact ⟨rfl, B12.out⟩
end Go.Proofs.YtagpclgappcnbaaGreat
