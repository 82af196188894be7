import Derived.Test.YtggpmepiggnnnaaCloneH
import Derived.Test.YtggpmepiggnnnaaKeepsLaw
namespace Go.Proofs.Ytggpmepiggnnnaa
open Go.RowKit

/-! ### both heaps: the same alarms, in blocks apart -/
structure DSx (w : World) (B hb rb : Nat) (F : Nat → Prop) (W V : List Al) : Prop where
  hp : Hp w F hb W
  ref : RefAt w (fun n => ¬ F n) rb V
  rF : ¬ F rb
  rge : B ≤ rb
  ge : ∀ n, F n → B ≤ n
theorem Keeps.weaken {F G : Nat → Prop} {w w' : World} (h : Keeps F w w') (hf : ∀ n, F n → G n) : Keeps G w w' := ⟨h.os, h.tape, h.output, h.size, fun k hk hg => h.block k hk (fun hh => hg (hf k hh))⟩
theorem DSx.new {w : World} {B hb rb : Nat} {F : Nat → Prop} {W V : List Al} (h : DSx w B hb rb F W V) : ∀ n, w.heap.size ≤ n → ¬ F n := fun n hn hf => absurd (h.hp.old n hf) (by omega)
theorem DSx.drew {w : World} {B hb rb : Nat} {F : Nat → Prop} {W V : List Al} (h : DSx w B hb rb F W V) : DSx w.drew B hb rb F W V := ⟨h.hp.below (Below.refl _ _).drew, h.ref.below (Below.refl _ _).drew, h.rF, h.rge, h.ge⟩
theorem DSx.below {w w' : World} {B hb rb : Nat} {F : Nat → Prop} {W V : List Al} (h : DSx w B hb rb F W V) (hb' : Below w.heap.size w w') : DSx w' B hb rb F W V := ⟨h.hp.below hb', h.ref.below hb', h.rF, h.rge, h.ge⟩
theorem DSx.heap {w w' : World} {B hb rb : Nat} {F F' : Nat → Prop} {W V W' : List Al} (h : DSx w B hb rb F W V) (hp : Hp w' F' hb W') (hg : Grows w F F') (hk : Keeps F w w') : DSx w' B hb rb F' W' V := by
  obtain ⟨v, h1, h2, h3⟩ := h.ref
  have hz := lt_of_obj h1
  have nF : ∀ n, n < w.heap.size → ¬ F n → ¬ F' n := fun n hn hf hf' => (hg n hf').elim hf (by omega)
  have hB : B ≤ w.heap.size := by have := h.rge; omega
  refine ⟨hp, ⟨v, (hk.block _ hz h.rF).trans h1, h2.keeps fun g hg' => hk.block g (h2.1.lt g hg').2 (h3 g hg'), fun n hn => nF n (h2.1.lt n hn).2 (h3 n hn)⟩, nF _ hz h.rF, h.rge, fun n hn => (hg n hn).elim (h.ge n) (fun h5 => by omega)⟩
theorem DSx.act {w w' : World} {B hb rb : Nat} {F : Nat → Prop} {W V V' : List Al} (h : DSx w B hb rb F W V) (hr : RefAt w' (fun n => ¬ F n) rb V') (hk : Keeps (fun n => n = rb) w w') : DSx w' B hb rb F W V' :=
  ⟨h.hp.other hk (fun n _ hf e => h.rF (e ▸ hf)), hr, h.rF, h.rge, h.ge⟩
set_option maxRecDepth 100000 in
set_option maxHeartbeats 8000000 in
theorem does_any (w : World) (B hb rb : Nat) (F : Nat → Prop) (W : List Al) (d t k : Int) (h : DSx w B hb rb F W W) :
    Calls Try.prog 27 #[.pointer (some ⟨hb, 0, none⟩), .pointer (some ⟨rb, 0, none⟩), .agg #[.int .i64 d, .int .i64 t, .int .i64 k]] w fun e w' => e = .returned (.bool true) ∧ (∃ F' W', DSx w' B hb rb F' W' W' ∧ Grows w F F') ∧ Keeps (fun n => F n ∨ n = rb) w w' := by
  have b0 : Below w.heap.size w (w.alloc (.cells #[.int .i64 d, .int .i64 t, .int .i64 k] 55)) := (Below.refl _ w).alloc (Nat.le_refl _) _
  have o0 : obj (w.alloc (.cells #[.int .i64 d, .int .i64 t, .int .i64 k] 55)) w.heap.size = some (.cells #[.int .i64 d, .int .i64 t, .int .i64 k] 55 (0, 0)) := obj_alloc_at _ _ _ rfl
  have f0 : ¬ F w.heap.size := h.new _ (Nat.le_refl _)
  have r0 : rb < w.heap.size := h.ref.lt
  have DX := Lib.hid (h.below b0)
  have P1 := Lib.hid DX.out.hp
  have B0 := Lib.hid (Keeps.of_below (F := fun n => F n ∨ n = rb) b0)
  clear h b0
  go_enter Try.func27, Try.ntmps27
  have c0 : (w.alloc (.cells #[.int .i64 d, .int .i64 t, .int .i64 k] 55)).cell? ⟨w.heap.size, 0, none⟩ = some (.int .i64 d) := cell_at o0 0
  have c1 : (w.alloc (.cells #[.int .i64 d, .int .i64 t, .int .i64 k] 55)).cell? ⟨w.heap.size, 1, none⟩ = some (.int .i64 t) := cell_at o0 1
  have c2 : (w.alloc (.cells #[.int .i64 d, .int .i64 t, .int .i64 k] 55)).cell? ⟨w.heap.size, 2, none⟩ = some (.int .i64 k) := cell_at o0 2
  have hbx := lt_of_obj o0
  by_cases d0 : d = 0
  · subst d0
    go_wp2_with fail
    generalize w.alloc (.cells #[.int .i64 0, .int .i64 t, .int .i64 k] 55) = w0 at *
    generalize w.heap.size = bx at *
    have HC1 := Lib.hid (push_hp w0.drew F hb W t k (P1.out.below (Below.refl _ _).drew))
    have HWL := Lib.hid P1.out.len
    generalize hpe : pushE W t k = E at *
    have HPE := Lib.hid hpe
    clear hpe
    go_region_held3 (fun wx => wx.cell? ⟨bx, 1, none⟩ = some (.int .i64 t) ∧ wx.cell? ⟨bx, 2, none⟩ = some (.int .i64 k))
      (first | exact ⟨c1, c2⟩ | assumption)
      (first
        | (go_at_call 11; (with_reducible refine HC1.out.mono ?_); rintro e w5 ⟨rfl, ⟨F5, h5, g5⟩, k5⟩; have o5 := (k5.block _ (lt_of_obj o0) f0).trans o0; have cc : w5.cell? ⟨bx, 1, none⟩ = some (.int .i64 t) ∧ w5.cell? ⟨bx, 2, none⟩ = some (.int .i64 k) := ⟨cell_at o5 1, cell_at o5 2⟩; have D5 := Lib.hid (DSx.heap (DSx.drew DX.out) h5 g5 k5); have K5 := Lib.hid k5; have G5 := Lib.hid g5; have HC2 := Lib.hid (pushR w5 (fun n => ¬ F5 n) rb W t k D5.out.ref HWL.out D5.out.new); rw [HPE.out] at HC2; clear h5 g5 k5 HC1)
        | (go_at_call 44; (with_reducible refine HC2.out.mono ?_); rintro e w6 ⟨rfl, h6, k6⟩; have o6 := (k6.block _ (lt_of_obj o5) (by omega)).trans o5; have cc6 : w6.cell? ⟨bx, 1, none⟩ = some (.int .i64 t) ∧ w6.cell? ⟨bx, 2, none⟩ = some (.int .i64 k) := ⟨cell_at o6 1, cell_at o6 2⟩; have D6 := Lib.hid (D5.out.act h6 k6); have K6 := Lib.hid k6; clear h6 k6 HC2))
    have BF : Hid (Keeps (fun n => F n ∨ n = rb) w w6) := Lib.hid (B0.out.trans ((Keeps.of_below (Below.refl _ _).drew).trans ((K5.out.weaken (fun n hn => .inl hn)).trans (K6.out.weaken (fun n hn => .inr hn)))))
    go_wp2
    go_ret
    exact ⟨ret_bool (by simp), ⟨_, _, D6.out, fun n hn => (G5.out n hn).imp id (Nat.le_trans B0.out.size)⟩, BF.out⟩
  by_cases d1 : d = 1
  · subst d1
    go_wp2_with fail
    generalize w.alloc (.cells #[.int .i64 1, .int .i64 t, .int .i64 k] 55) = w0 at *
    generalize w.heap.size = bx at *
    have HC1 := Lib.hid (move_hp w0.drew F hb W t k (P1.out.below (Below.refl _ _).drew))
    have HWL := Lib.hid P1.out.len
    generalize hpe : moveE W t k = E at *
    have HPE := Lib.hid hpe
    clear hpe
    go_region_held3 (fun wx => wx.cell? ⟨bx, 1, none⟩ = some (.int .i64 t) ∧ wx.cell? ⟨bx, 2, none⟩ = some (.int .i64 k))
      (first | exact ⟨c1, c2⟩ | assumption)
      (first
        | (go_at_call 24; (with_reducible refine HC1.out.mono ?_); rintro e w5 ⟨rfl, h5, k5⟩; have o5 := (k5.block _ (lt_of_obj o0) f0).trans o0; have cc : w5.cell? ⟨bx, 1, none⟩ = some (.int .i64 t) ∧ w5.cell? ⟨bx, 2, none⟩ = some (.int .i64 k) := ⟨cell_at o5 1, cell_at o5 2⟩; have D5 := Lib.hid (DSx.heap (DSx.drew DX.out) h5 (Grows.refl _ _) k5); have K5 := Lib.hid k5; have HC2 := Lib.hid (moveR w5 (fun n => ¬ F n) rb W t k D5.out.ref HWL.out D5.out.new); rw [HPE.out] at HC2; clear h5 k5 HC1)
        | (go_at_call 45; (with_reducible refine HC2.out.mono ?_); rintro e w6 ⟨rfl, h6, k6⟩; have o6 := (k6.block _ (lt_of_obj o5) (by omega)).trans o5; have cc6 : w6.cell? ⟨bx, 1, none⟩ = some (.int .i64 t) ∧ w6.cell? ⟨bx, 2, none⟩ = some (.int .i64 k) := ⟨cell_at o6 1, cell_at o6 2⟩; have D6 := Lib.hid (D5.out.act h6 k6); have K6 := Lib.hid k6; clear h6 k6 HC2))
    have BF : Hid (Keeps (fun n => F n ∨ n = rb) w w6) := Lib.hid (B0.out.trans ((Keeps.of_below (Below.refl _ _).drew).trans ((K5.out.weaken (fun n hn => .inl hn)).trans (K6.out.weaken (fun n hn => .inr hn)))))
    go_wp2
    go_ret
    exact ⟨ret_bool (by simp), ⟨_, _, D6.out, Grows.refl _ _⟩, BF.out⟩
  by_cases d2 : d = 2
  · subst d2
    go_wp2_with fail
    generalize w.alloc (.cells #[.int .i64 2, .int .i64 t, .int .i64 k] 55) = w0 at *
    generalize w.heap.size = bx at *
    have HC1 := Lib.hid (drop_hp w0.drew F hb W k (P1.out.below (Below.refl _ _).drew))
    have HWL := Lib.hid P1.out.len
    generalize hpe : dropE W k = E at *
    have HPE := Lib.hid hpe
    clear hpe
    go_region_held3 (fun wx => wx.cell? ⟨bx, 1, none⟩ = some (.int .i64 t) ∧ wx.cell? ⟨bx, 2, none⟩ = some (.int .i64 k))
      (first | exact ⟨c1, c2⟩ | assumption)
      (first
        | (go_at_call 25; (with_reducible refine HC1.out.mono ?_); rintro e w5 ⟨rfl, h5, k5⟩; have o5 := (k5.block _ (lt_of_obj o0) f0).trans o0; have cc : w5.cell? ⟨bx, 1, none⟩ = some (.int .i64 t) ∧ w5.cell? ⟨bx, 2, none⟩ = some (.int .i64 k) := ⟨cell_at o5 1, cell_at o5 2⟩; have D5 := Lib.hid (DSx.heap (DSx.drew DX.out) h5 (Grows.refl _ _) k5); have K5 := Lib.hid k5; have HC2 := Lib.hid (dropR w5 (fun n => ¬ F n) rb W k D5.out.ref HWL.out D5.out.new); rw [HPE.out] at HC2; clear h5 k5 HC1)
        | (go_at_call 46; (with_reducible refine HC2.out.mono ?_); rintro e w6 ⟨rfl, h6, k6⟩; have o6 := (k6.block _ (lt_of_obj o5) (by omega)).trans o5; have cc6 : w6.cell? ⟨bx, 1, none⟩ = some (.int .i64 t) ∧ w6.cell? ⟨bx, 2, none⟩ = some (.int .i64 k) := ⟨cell_at o6 1, cell_at o6 2⟩; have D6 := Lib.hid (D5.out.act h6 k6); have K6 := Lib.hid k6; clear h6 k6 HC2))
    have BF : Hid (Keeps (fun n => F n ∨ n = rb) w w6) := Lib.hid (B0.out.trans ((Keeps.of_below (Below.refl _ _).drew).trans ((K5.out.weaken (fun n hn => .inl hn)).trans (K6.out.weaken (fun n hn => .inr hn)))))
    go_wp2
    go_ret
    exact ⟨ret_bool (by simp), ⟨_, _, D6.out, Grows.refl _ _⟩, BF.out⟩
  have HWL := Lib.hid P1.out.len
  by_cases d3 : d = 3
  · subst d3
    have HC1 := Lib.hid (pop_hp _ F hb W P1.out)
    have HC2 := Lib.hid (fun W' (hr : RefAt W' (fun n => ¬ F n) rb W) (hn : ∀ n, W'.heap.size ≤ n → ¬ F n) => popR W' _ rb W hr HWL.out hn)
    generalize at' W 0 = x at *
    generalize peekE W = E at *
    obtain ⟨x1, x2⟩ := x
    have hq1 : (x1 == x1) = true := by simp
    have hq2 : (x2 == x2) = true := by simp
    have hq3 : (E == E) = true := by simp
    go_wp2_with fail
    generalize w.alloc (.cells #[.int .i64 3, .int .i64 t, .int .i64 k] 55) = w0 at *
    generalize w.heap.size = bx at *
    refine HC1.out.mono ?_
    rintro e w5 ⟨rfl, h5, k5⟩
    have b6 : Below w5.heap.size w5 (w5.alloc (.cells #[.int .i64 x1, .int .i64 x2] 32)) := (Below.refl _ w5).alloc (Nat.le_refl _) _
    have D6 := Lib.hid ((DX.out.heap h5 (Grows.refl _ _) k5).below b6)
    have o7 : obj (w5.alloc (.cells #[.int .i64 x1, .int .i64 x2] 32)) w5.heap.size = some (.cells #[.int .i64 x1, .int .i64 x2] 32 (0, 0)) := obj_alloc_at _ _ _ rfl
    have hrb5 : rb < w5.heap.size := by have := k5.size; omega
    have B6 := Lib.hid ((B0.out.trans (k5.weaken (fun n hn => .inl hn))).trans (Keeps.of_below b6))
    clear h5 k5 b6 HC1
    go_wp2_with fail
    generalize w5.alloc (.cells #[.int .i64 x1, .int .i64 x2] 32) = w6 at *
    generalize w5.heap.size = ab at *
    refine (HC2.out w6 D6.out.ref D6.out.new).mono ?_
    rintro e w7 ⟨rfl, h7, k7⟩
    have b8 : Below w7.heap.size w7 (w7.alloc (.cells #[.int .i64 x1, .int .i64 x2] 32)) := (Below.refl _ w7).alloc (Nat.le_refl _) _
    have D8 := Lib.hid ((D6.out.act h7 k7).below b8)
    have o7' := (k7.block _ (lt_of_obj o7) (by omega)).trans o7
    have hz7 := lt_of_obj o7'
    have q7 := (obj_below b8 hz7).trans o7'
    have hab : ab ≠ w7.heap.size := by omega
    have B8 := Lib.hid ((B6.out.trans (k7.weaken (fun n hn => .inr hn))).trans (Keeps.of_below b8))
    have o9 : obj (w7.alloc (.cells #[.int .i64 x1, .int .i64 x2] 32)) w7.heap.size = some (.cells #[.int .i64 x1, .int .i64 x2] 32 (0, 0)) := obj_alloc_at _ _ _ rfl
    clear h7 k7 b8 HC2 o7 o7'
    go_wp2
    go_ret
    exact ⟨ret_bool (by first | rfl | simp), ⟨_, _, D8.out, Grows.refl _ _⟩, B8.out⟩
  by_cases d4 : d = 4
  · subst d4
    have HC1 := Lib.hid (due_hp _ F hb W t (P1.out.below (Below.refl _ _).drew))
    go_wp2_with fail
    generalize w.alloc (.cells #[.int .i64 4, .int .i64 t, .int .i64 k] 55) = w0 at *
    generalize w.heap.size = bx at *
    go_region_held3 (fun wx => wx.cell? ⟨bx, 1, none⟩ = some (.int .i64 t) ∧ wx.cell? ⟨bx, 2, none⟩ = some (.int .i64 k))
      (first | exact ⟨c1, c2⟩ | assumption)
      (first
        | (go_at_call 19; (with_reducible refine HC1.out.mono ?_); rintro e w5 ⟨⟨v5, rfl, q5, n5⟩, h5, k5⟩; have o5 := (k5.block _ (lt_of_obj o0) f0).trans o0; have cc : w5.cell? ⟨bx, 1, none⟩ = some (.int .i64 t) ∧ w5.cell? ⟨bx, 2, none⟩ = some (.int .i64 k) := ⟨cell_at o5 1, cell_at o5 2⟩; have D5 := Lib.hid (DSx.heap (DSx.drew DX.out) h5 (Grows.refl _ _) k5); have K5 := Lib.hid k5; have Q5 := Lib.hid q5; have HC2 := Lib.hid (dueR w5 (fun n => ¬ F n) rb W t D5.out.ref HWL.out D5.out.new); clear h5 k5 HC1 q5)
        | (go_at_call 48; (with_reducible refine HC2.out.mono ?_); rintro e w6 ⟨⟨v6, rfl, q6⟩, h6, k6⟩; have o6 := (k6.block _ (lt_of_obj o5) (by omega)).trans o5; have cc6 : w6.cell? ⟨bx, 1, none⟩ = some (.int .i64 t) ∧ w6.cell? ⟨bx, 2, none⟩ = some (.int .i64 k) := ⟨cell_at o6 1, cell_at o6 2⟩; have D6 := Lib.hid (D5.out.act h6 k6); have K6 := Lib.hid k6; have Q56 := (Q5.out.keepsNot k6 (fun n hn e => by have h9 := (Q5.out.1.lt n hn).1; have h8 : w0.drew.heap.size = w0.heap.size := rfl; omega)); have HC3 := Lib.hid (equal_any w6 _ _ _ _ (Q56.slIn alL_length) (q6.slIn alL_length)); rw [decide_eq_true rfl] at HC3; clear h6 k6 HC2 q6)
        | (go_at_call 22; (with_reducible refine HC3.out.mono ?_); rintro e w7 ⟨rfl, b7⟩; have o7 := (obj_below b7 (lt_of_obj o6)).trans o6; have cc7 : w7.cell? ⟨bx, 1, none⟩ = some (.int .i64 t) ∧ w7.cell? ⟨bx, 2, none⟩ = some (.int .i64 k) := ⟨cell_at o7 1, cell_at o7 2⟩; have D7 := Lib.hid (D6.out.below b7); have B7 := Lib.hid b7; clear b7 HC3))
    have BF : Hid (Keeps (fun n => F n ∨ n = rb) w w7) := Lib.hid ((B0.out.trans ((Keeps.of_below (Below.refl _ _).drew).trans ((K5.out.weaken (fun n hn => .inl hn)).trans (K6.out.weaken (fun n hn => .inr hn))))).trans (Keeps.of_below B7.out))
    go_wp2
    go_ret
    exact ⟨ret_bool (by first | rfl | simp), ⟨_, _, D7.out, Grows.refl _ _⟩, BF.out⟩
  · have e0 : (d == 0) = false := by simpa using d0
    have e1 : (d == 1) = false := by simpa using d1
    have e2 : (d == 2) = false := by simpa using d2
    have e3 : (d == 3) = false := by simpa using d3
    have e4 : (d == 4) = false := by simpa using d4
    have HC1 := Lib.hid (peek_hp _ F hb W P1.out)
    have HC2 := Lib.hid (fun W' (hr : RefAt W' (fun n => ¬ F n) rb W) => peekR W' _ rb W hr)
    have HC3 := Lib.hid (fun W' (hr : Hp W' F hb W) => at_hp W' F hb W k hr)
    have HC4 := Lib.hid (fun W' (hr : RefAt W' (fun n => ¬ F n) rb W) => atR W' _ rb W k hr)
    generalize at' W 0 = x at *
    generalize peekE W = E at *
    generalize atT W k = T at *
    generalize dropE W k = E2 at *
    obtain ⟨x1, x2⟩ := x
    have hq1 : (x1 == x1) = true := by simp
    have hq2 : (x2 == x2) = true := by simp
    have hq3 : (E == E) = true := by simp
    have hq4 : (T == T) = true := by simp
    have hq5 : (E2 == E2) = true := by simp
    go_wp2_with fail
    generalize w.alloc (.cells #[.int .i64 d, .int .i64 t, .int .i64 k] 55) = w0 at *
    generalize w.heap.size = bx at *
    refine HC1.out.mono ?_
    rintro e w5 ⟨rfl, b5⟩
    have b6 : Below w5.heap.size w5 (w5.alloc (.cells #[.int .i64 x1, .int .i64 x2] 32)) := (Below.refl _ w5).alloc (Nat.le_refl _) _
    have D6 := Lib.hid ((DX.out.below b5).below b6)
    have o7 : obj (w5.alloc (.cells #[.int .i64 x1, .int .i64 x2] 32)) w5.heap.size = some (.cells #[.int .i64 x1, .int .i64 x2] 32 (0, 0)) := obj_alloc_at _ _ _ rfl
    have B6 := Lib.hid (b5.trans (b6.mono b5.size))
    have p6 := (obj_below B6.out hbx).trans o0
    clear b5 b6 HC1
    go_wp2_with fail
    generalize w5.alloc (.cells #[.int .i64 x1, .int .i64 x2] 32) = w6 at *
    generalize w5.heap.size = ab at *
    refine (HC2.out w6 D6.out.ref).mono ?_
    rintro e w7 ⟨rfl, b7⟩
    have b8 : Below w7.heap.size w7 (w7.alloc (.cells #[.int .i64 x1, .int .i64 x2] 32)) := (Below.refl _ w7).alloc (Nat.le_refl _) _
    have D8 := Lib.hid ((D6.out.below b7).below b8)
    have B8 := Lib.hid (b7.trans (b8.mono b7.size))
    have hz6 := lt_of_obj o7
    have hz66 := lt_of_obj p6
    have q7 := (obj_below B8.out hz6).trans o7
    have p8 := (obj_below B8.out hz66).trans p6
    have hz77 : w6.heap.size ≤ w7.heap.size := b7.size
    have hab : ab ≠ w7.heap.size := by omega
    have B08 := Lib.hid (B6.out.trans (B8.out.mono B6.out.size))
    have o9 : obj (w7.alloc (.cells #[.int .i64 x1, .int .i64 x2] 32)) w7.heap.size = some (.cells #[.int .i64 x1, .int .i64 x2] 32 (0, 0)) := obj_alloc_at _ _ _ rfl
    clear b7 b8 HC2 o7 p6 B6 B8
    generalize hw8 : w7.alloc (.cells #[.int .i64 x1, .int .i64 x2] 32) = w8 at *
    have c82 : w8.cell? ⟨bx, 2, none⟩ = some (.int .i64 k) := cell_at p8 2
    have hz8 := lt_of_obj p8
    have hz9 := lt_of_obj o9
    have hz7 := lt_of_obj q7
    go_wp2_with fail
    refine (HC3.out w8 D8.out.hp).mono ?_
    rintro e w9 ⟨rfl, hw9⟩
    cases hw9
    go_wp2_with fail
    refine (HC4.out w8 D8.out.ref).mono ?_
    rintro e w10 ⟨rfl, b10⟩
    have q10 := (obj_below b10 hz7).trans q7
    have o10 := (obj_below b10 hz9).trans o9
    have D10 := Lib.hid (D8.out.below b10)
    have B10 := Lib.hid (B0.out.trans (Keeps.of_below (B08.out.trans (b10.mono B08.out.size))))
    have y1 := lt_of_obj q10
    have y2 := lt_of_obj o10
    clear b10 HC3 HC4 q7 o9
    go_wp2
    go_ret
    exact ⟨ret_bool (by first | rfl | simp), ⟨_, _, D10.out, Grows.refl _ _⟩, B10.out⟩
end Go.Proofs.Ytggpmepiggnnnaa
