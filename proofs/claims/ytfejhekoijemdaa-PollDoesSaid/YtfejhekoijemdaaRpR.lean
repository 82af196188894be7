import Derived.Test.YtfejhekoijemdaaRpP
import Derived.Test.YtfejhekoijemdaaSplM
import Derived.Test.YtfejhekoijemdaaOps
import Derived.Deep.RegionHeld3
namespace Go.Proofs.Ytfejhekoijemdaa
open Go.RowKit

/-! ### does: one act of both -/
def AX (X : Nat → Prop) (w w1 : World) (n : Nat) : Prop := X n ∨ (w.heap.size ≤ n ∧ n < w1.heap.size)
def DoesR (w : World) (X : Nat → Prop) (b rb k : Nat) (e : Ending) (w' : World) : Prop := e = .returned (.bool true) ∧ BothR w X b rb k w'
theorem does_end {w w1 w2 : World} {X : Nat → Prop} {b rb k : Nat} {S' : SetM} {R' : List (List Int)} (hb : Below w.heap.size w w1) (hk : Keeps (NX (AX X w w1)) w1 w2) (d : Duo w2 (AX X w w1) b rb S' S' R') (ok : SetOK S') (rel : RelS S' R') (len : S'.l.length ≤ k) (last : S'.last ≤ k) : DoesR w X b rb k (.returned (.bool true)) w2 :=
  ⟨rfl, ⟨S', R', d.mono (fun n hn => .inl hn), ok, rel, len, last⟩, (Keeps.of_below hb).trans (hk.mono fun n hn hx => hn (.inl hx))⟩
/-- what stands while an act of both is under way -/
structure VSt (w0 : World) (X : Nat → Prop) (b rb bx : Nat) (cs : Array Value) (R : List (List Int)) (w : World) (S1 S2 : SetM) : Prop where
  d : Duo w X b rb S1 S2 R
  k : Keeps (NX X) w0 w
  o : obj w bx = some (.cells cs 54 (0, 0))
theorem VSt.next {w0 w w' : World} {X : Nat → Prop} {b rb bx : Nat} {cs : Array Value} {R R' : List (List Int)} {S1 S2 T1 T2 : SetM} (h : VSt w0 X b rb bx cs R w S1 S2) (hx : X bx) (d : Duo w' X b rb T1 T2 R') (k : Keeps (NX X) w w') : VSt w0 X b rb bx cs R' w' T1 T2 :=
  ⟨d, h.k.trans k, (k.block _ (lt_of_obj h.o) fun hn => hn hx).trans h.o⟩
set_option maxRecDepth 100000 in
set_option maxHeartbeats 4000000 in
theorem does_any (w : World) (X : Nat → Prop) (b rb : Nat) (S : SetM) (R : List (List Int)) (k : Nat) (x : OpM) (h : Both w X b rb S R k) (hk : k ≤ 90000) (hx : OpOK w x) (hX : ∀ g off n cap, Value.slice x.oa x.n x.cap = .slice (some ⟨g, off, none⟩) n cap → 0 < x.xs.length → X g) :
    Calls Try.prog 25 #[.pointer (some ⟨b, 0, none⟩), .pointer (some ⟨rb, 0, none⟩), .agg (opL x).toArray] w (DoesR w X b rb (k + 1)) := by
  obtain ⟨xd, xp, xv, xi, xo, xn, xc, xx⟩ := x
  obtain ⟨w1, hw1⟩ : ∃ w1 : World, w.alloc (.cells #[.int .i64 xd, .int .i64 xp, .int .i64 xv, .int .u8 xi, .slice xo xn xc] 54) = w1 := ⟨_, rfl⟩
  have b1 : Below w.heap.size w w1 := by rw [← hw1]; exact (Below.refl _ w).alloc (Nat.le_refl _) _
  have OB : Hid (obj w1 w.heap.size = some (.cells #[.int .i64 xd, .int .i64 xp, .int .i64 xv, .int .u8 xi, .slice xo xn xc] 54 (0, 0))) := Lib.hid (by rw [← hw1]; exact obj_alloc_at _ _ _ rfl)
  have HW1 := Lib.hid hw1
  clear hw1
  have D1 : Hid (Duo w1 (AX X w w1) b rb S S R) := Lib.hid (h.d.more b1)
  have OK := Lib.hid h.ok
  have REL := Lib.hid h.rel
  have hlen := h.len
  have hlast := h.last
  have SL : Hid (SlIn w1 (.slice xo xn xc) 1 intL xx) := Lib.hid (hx.sl.below b1)
  have HX := Lib.hid hX
  have LO : Hid (0 ≤ xi) := Lib.hid hx.lo
  have HI : Hid (xi ≤ 255) := Lib.hid hx.hi
  have B1 := Lib.hid b1
  have XB : Hid (AX X w w1 w.heap.size) := Lib.hid (.inr ⟨Nat.le_refl _, lt_of_obj OB.out⟩)
  clear h hx hX b1
  simp only [opL]
  have ST : Hid (VSt w1 (AX X w w1) b rb w.heap.size #[.int .i64 xd, .int .i64 xp, .int .i64 xv, .int .u8 xi, .slice xo xn xc] R w1 S S) := Lib.hid ⟨D1.out, Keeps.refl _ _, OB.out⟩
  have lb := lt_of_obj OB.out
  have HE : Hid (∀ (w2 : World) (S' : SetM) (R' : List (List Int)), VSt w1 (AX X w w1) b rb w.heap.size #[.int .i64 xd, .int .i64 xp, .int .i64 xv, .int .u8 xi, .slice xo xn xc] R' w2 S' S' → SetOK S' → RelS S' R' → S'.l.length ≤ k + 1 → S'.last ≤ k + 1 → DoesR w X b rb (k + 1) (.returned (.bool true)) w2) := Lib.hid (fun w2 S' R' h ok rel l1 l2 => does_end B1.out h.k h.d ok rel l1 (by omega))
  clear D1 OB
  by_cases hd0 : xd = 0
  · subst hd0
    go_enter Try.func25, Try.ntmps25
    go_wp2_with fail
    rw [HW1.out]
    have x0 : w1.cell? ⟨w.heap.size, 0, none⟩ = some (.int .i64 0) := cell_at ST.out.o 0
    have x1 : w1.cell? ⟨w.heap.size, 1, none⟩ = some (.int .i64 xp) := cell_at ST.out.o 1
    have x2 : w1.cell? ⟨w.heap.size, 2, none⟩ = some (.int .i64 xv) := cell_at ST.out.o 2
    have x3 : w1.cell? ⟨w.heap.size, 3, none⟩ = some (.int .u8 xi) := cell_at ST.out.o 3
    have x4 : w1.cell? ⟨w.heap.size, 4, none⟩ = some (.slice xo xn xc) := cell_at ST.out.o 4
    refine (duo_open ST.out.d OK.out (by omega) _ xx SL.out (fun g off n cap e h0 => .inl (HX.out g off n cap e h0))).mono ?_
    rintro e w2 ⟨rfl, d2, k2⟩
    have S2 := Lib.hid (ST.out.next XB.out d2 k2)
    have SL2 : Hid (SlIn w2 (.slice xo xn xc) 1 intL xx) := Lib.hid (SL.out.stay k2.size fun g off n cap e h0 hlt => k2.block g hlt fun hn => hn (.inl (HX.out g off n cap e h0)))
    clear d2 k2 x0 x1 x2 x3 x4 lb SL
    have x4 : w2.cell? ⟨w.heap.size, 4, none⟩ = some (.slice xo xn xc) := cell_at S2.out.o 4
    have lb := lt_of_obj S2.out.o
    go_wp2_with fail
    refine (duo_ropen S2.out.d OK.out (by omega) (by omega) _ xx SL2.out).mono ?_
    rintro e w3 ⟨rfl, d3, k3⟩
    have S3 := Lib.hid (S2.out.next XB.out d3 k3)
    have FIN := Lib.hid (HE.out _ _ _ S3.out (OK.out.open xx) (REL.out.open xx) (by have := (ropenM_size (T := S) xx).1; omega) (by have := (ropenM_size (T := S) xx).2; omega))
    clear d3 k3 S2 S3 ST HE x4 lb
    generalize (ropenM S xx).2.1 = r1 at *
    generalize (ropenM S xx).2.2 = r2 at *
    have e1 : (r1 == r1) = true := by simp
    have e2 : (r2 == r2) = true := by simp
    go_wp2_with fail
    go_ret
    exact FIN.out
  by_cases hd1 : xd = 1
  · subst hd1
    go_enter Try.func25, Try.ntmps25
    go_wp2_with fail
    rw [HW1.out]
    have x0 : w1.cell? ⟨w.heap.size, 0, none⟩ = some (.int .i64 1) := cell_at ST.out.o 0
    have x1 : w1.cell? ⟨w.heap.size, 1, none⟩ = some (.int .i64 xp) := cell_at ST.out.o 1
    have x2 : w1.cell? ⟨w.heap.size, 2, none⟩ = some (.int .i64 xv) := cell_at ST.out.o 2
    have x3 : w1.cell? ⟨w.heap.size, 3, none⟩ = some (.int .u8 xi) := cell_at ST.out.o 3
    have x4 : w1.cell? ⟨w.heap.size, 4, none⟩ = some (.slice xo xn xc) := cell_at ST.out.o 4
    have hl9 : S.l.length ≤ 100000 := by omega
    have C15 : Hid (∀ (W : World) (T1 T2 : SetM), VSt w1 (AX X w w1) b rb w.heap.size #[.int .i64 1, .int .i64 xp, .int .i64 xv, .int .u8 xi, .slice xo xn xc] R W T1 T2 → Calls Try.prog 15 #[.int .u8 xi] W fun e w' => e = .returned (.agg (idL (nameP xi)).toArray) ∧ VSt w1 (AX X w w1) b rb w.heap.size #[.int .i64 1, .int .i64 xp, .int .i64 xv, .int .u8 xi, .slice xo xn xc] R w' T1 T2) := Lib.hid (fun W T1 T2 h => (name_any W xi LO.out HI.out).mono (by rintro e w' ⟨rfl, hb⟩; exact ⟨rfl, h.next XB.out (h.d.below hb) (Keeps.of_below hb)⟩))
    have C14 : Hid (∀ (W : World) (T2 : SetM), VSt w1 (AX X w w1) b rb w.heap.size #[.int .i64 1, .int .i64 xp, .int .i64 xv, .int .u8 xi, .slice xo xn xc] R W S T2 → Calls Try.prog 14 #[.pointer (some ⟨b, 0, none⟩), .int .i64 xp, .int .i64 xv, .agg (idL (nameP xi)).toArray] W fun e w' => e = .returned (.int .i64 (voteM S xp xv (nameP xi)).2) ∧ VSt w1 (AX X w w1) b rb w.heap.size #[.int .i64 1, .int .i64 xp, .int .i64 xv, .int .u8 xi, .slice xo xn xc] R w' (voteM S xp xv (nameP xi)).1 T2) := Lib.hid (fun W T2 h => (duo_vote h.d OK.out xp xv (nameP xi)).mono (by rintro e w' ⟨rfl, d, k⟩; exact ⟨rfl, h.next XB.out d k⟩))
    have C41 : Hid (∀ (W : World) (T1 : SetM), VSt w1 (AX X w w1) b rb w.heap.size #[.int .i64 1, .int .i64 xp, .int .i64 xv, .int .u8 xi, .slice xo xn xc] R W T1 S → Calls Try.prog 41 #[.pointer (some ⟨rb, 0, none⟩), .int .i64 xp, .int .i64 xv, .agg (idL (nameP xi)).toArray] W fun e w' => e = .returned (.int .i64 (voteM S xp xv (nameP xi)).2) ∧ VSt w1 (AX X w w1) b rb w.heap.size #[.int .i64 1, .int .i64 xp, .int .i64 xv, .int .u8 xi, .slice xo xn xc] R w' T1 (voteM S xp xv (nameP xi)).1) := Lib.hid (fun W T1 h => (duo_rvote h.d OK.out REL.out hl9 xp xv (nameP xi)).mono (by rintro e w' ⟨rfl, d, k⟩; exact ⟨rfl, h.next XB.out d k⟩))
    have HC : Hid (∀ (W : World) (T1 T2 : SetM), VSt w1 (AX X w w1) b rb w.heap.size #[.int .i64 1, .int .i64 xp, .int .i64 xv, .int .u8 xi, .slice xo xn xc] R W T1 T2 → W.cell? ⟨w.heap.size, 1, none⟩ = some (.int .i64 xp) ∧ W.cell? ⟨w.heap.size, 2, none⟩ = some (.int .i64 xv) ∧ W.cell? ⟨w.heap.size, 3, none⟩ = some (.int .u8 xi)) := Lib.hid (fun W T1 T2 h => ⟨cell_at h.o 1, cell_at h.o 2, cell_at h.o 3⟩)
    have FIN : Hid (∀ W, VSt w1 (AX X w w1) b rb w.heap.size #[.int .i64 1, .int .i64 xp, .int .i64 xv, .int .u8 xi, .slice xo xn xc] R W (voteM S xp xv (nameP xi)).1 (voteM S xp xv (nameP xi)).1 → DoesR w X b rb (k + 1) (.returned (.bool true)) W) := Lib.hid (fun W h => HE.out W _ _ h (OK.out.voteM _ _ _) (REL.out.voteM _ _ _) (by have := (voteM_size (T := S) xp xv (nameP xi)).1; omega) (by have := (voteM_size (T := S) xp xv (nameP xi)).2; omega))
    have ST : Hid (VSt w1 (AX X w w1) b rb w.heap.size #[.int .i64 1, .int .i64 xp, .int .i64 xv, .int .u8 xi, .slice xo xn xc] R w1.drew S S) := Lib.hid (ST.out.next XB.out (ST.out.d.below (Below.refl _ _).drew) (Keeps.refl _ _).drew)
    generalize hS' : (voteM S xp xv (nameP xi)).1 = S' at *
    generalize (voteM S xp xv (nameP xi)).2 = er at *
    have e1 : (er == er) = true := by simp
    clear HE hS' OK REL SL HX B1 hlen hlast hl9 x0 x4
    refine region_merge (fun W => VSt w1 (AX X w w1) b rb w.heap.size #[.int .i64 1, .int .i64 xp, .int .i64 xv, .int .u8 xi, .slice xo xn xc] R W S' S') ?_
    apply Exists.intro
    apply And.intro
    case left =>
      go_region_held3 (fun W => W.cell? ⟨w.heap.size, 1, none⟩ = some (.int .i64 xp) ∧ W.cell? ⟨w.heap.size, 2, none⟩ = some (.int .i64 xv) ∧ W.cell? ⟨w.heap.size, 3, none⟩ = some (.int .u8 xi))
        (first | exact ⟨x1, x2, x3⟩ | assumption)
        (first
          | (go_at_call 15; (with_reducible refine (C15.out _ _ _ ST.out).mono ?_); rintro e Wn ⟨rfl, st⟩; have ST := Lib.hid st; have sc := HC.out _ _ _ st; clear st)
          | (go_at_call 14; (with_reducible refine (C14.out _ _ ST.out).mono ?_); rintro e Wn ⟨rfl, st⟩; have ST := Lib.hid st; have sc := HC.out _ _ _ st; clear st)
          | (go_at_call 41; (with_reducible refine (C41.out _ _ ST.out).mono ?_); rintro e Wn ⟨rfl, st⟩; have ST := Lib.hid st; have sc := HC.out _ _ _ st; clear st))
      all_goals exact ⟨rfl, ST.out⟩
    case right =>
    intro W hW
    have FW := Lib.hid (FIN.out W hW)
    clear hW FIN C15 C14 C41 HC ST x1 x2 x3 lb
    go_wp2_with fail
    go_ret
    exact FW.out
  by_cases hd2 : xd = 2
  · subst hd2
    go_enter Try.func25, Try.ntmps25
    go_wp2_with fail
    rw [HW1.out]
    have x0 : w1.cell? ⟨w.heap.size, 0, none⟩ = some (.int .i64 2) := cell_at ST.out.o 0
    have x1 : w1.cell? ⟨w.heap.size, 1, none⟩ = some (.int .i64 xp) := cell_at ST.out.o 1
    have x2 : w1.cell? ⟨w.heap.size, 2, none⟩ = some (.int .i64 xv) := cell_at ST.out.o 2
    have x3 : w1.cell? ⟨w.heap.size, 3, none⟩ = some (.int .u8 xi) := cell_at ST.out.o 3
    have x4 : w1.cell? ⟨w.heap.size, 4, none⟩ = some (.slice xo xn xc) := cell_at ST.out.o 4
    have hl9 : S.l.length ≤ 100000 := by omega
    have C14 : Hid (∀ (W : World) (T2 : SetM), VSt w1 (AX X w w1) b rb w.heap.size #[.int .i64 2, .int .i64 xp, .int .i64 xv, .int .u8 xi, .slice xo xn xc] R W S T2 → Calls Try.prog 13 #[.pointer (some ⟨b, 0, none⟩), .int .i64 xp, .int .i64 xv] W fun e w' => e = .returned (.int .i64 (dropM S xp xv).2) ∧ VSt w1 (AX X w w1) b rb w.heap.size #[.int .i64 2, .int .i64 xp, .int .i64 xv, .int .u8 xi, .slice xo xn xc] R w' (dropM S xp xv).1 T2) := Lib.hid (fun W T2 h => (duo_drop h.d OK.out xp xv).mono (by rintro e w' ⟨rfl, d, k⟩; exact ⟨rfl, h.next XB.out d k⟩))
    have C41 : Hid (∀ (W : World) (T1 : SetM), VSt w1 (AX X w w1) b rb w.heap.size #[.int .i64 2, .int .i64 xp, .int .i64 xv, .int .u8 xi, .slice xo xn xc] R W T1 S → Calls Try.prog 42 #[.pointer (some ⟨rb, 0, none⟩), .int .i64 xp, .int .i64 xv] W fun e w' => e = .returned (.int .i64 (dropM S xp xv).2) ∧ VSt w1 (AX X w w1) b rb w.heap.size #[.int .i64 2, .int .i64 xp, .int .i64 xv, .int .u8 xi, .slice xo xn xc] R w' T1 (dropM S xp xv).1) := Lib.hid (fun W T1 h => (duo_rdrop h.d OK.out REL.out hl9 xp xv).mono (by rintro e w' ⟨rfl, d, k⟩; exact ⟨rfl, h.next XB.out d k⟩))
    have HC : Hid (∀ (W : World) (T1 T2 : SetM), VSt w1 (AX X w w1) b rb w.heap.size #[.int .i64 2, .int .i64 xp, .int .i64 xv, .int .u8 xi, .slice xo xn xc] R W T1 T2 → W.cell? ⟨w.heap.size, 1, none⟩ = some (.int .i64 xp) ∧ W.cell? ⟨w.heap.size, 2, none⟩ = some (.int .i64 xv)) := Lib.hid (fun W T1 T2 h => ⟨cell_at h.o 1, cell_at h.o 2⟩)
    have FIN : Hid (∀ W, VSt w1 (AX X w w1) b rb w.heap.size #[.int .i64 2, .int .i64 xp, .int .i64 xv, .int .u8 xi, .slice xo xn xc] R W (dropM S xp xv).1 (dropM S xp xv).1 → DoesR w X b rb (k + 1) (.returned (.bool true)) W) := Lib.hid (fun W h => HE.out W _ _ h (OK.out.dropM _ _) (REL.out.dropM _ _) (by have := (dropM_size (T := S) xp xv).1; omega) (by have := (dropM_size (T := S) xp xv).2; omega))
    have ST : Hid (VSt w1 (AX X w w1) b rb w.heap.size #[.int .i64 2, .int .i64 xp, .int .i64 xv, .int .u8 xi, .slice xo xn xc] R w1.drew S S) := Lib.hid (ST.out.next XB.out (ST.out.d.below (Below.refl _ _).drew) (Keeps.refl _ _).drew)
    generalize hS' : (dropM S xp xv).1 = S' at *
    generalize (dropM S xp xv).2 = er at *
    have e1 : (er == er) = true := by simp
    clear HE hS' OK REL SL HX B1 hlen hlast hl9 x0 x3 x4
    refine region_merge (fun W => VSt w1 (AX X w w1) b rb w.heap.size #[.int .i64 2, .int .i64 xp, .int .i64 xv, .int .u8 xi, .slice xo xn xc] R W S' S') ?_
    apply Exists.intro
    apply And.intro
    case left =>
      go_region_held3 (fun W => W.cell? ⟨w.heap.size, 1, none⟩ = some (.int .i64 xp) ∧ W.cell? ⟨w.heap.size, 2, none⟩ = some (.int .i64 xv))
        (first | exact ⟨x1, x2⟩ | assumption)
        (first
          | (go_at_call 13; (with_reducible refine (C14.out _ _ ST.out).mono ?_); rintro e Wn ⟨rfl, st⟩; have ST := Lib.hid st; have sc := HC.out _ _ _ st; clear st)
          | (go_at_call 42; (with_reducible refine (C41.out _ _ ST.out).mono ?_); rintro e Wn ⟨rfl, st⟩; have ST := Lib.hid st; have sc := HC.out _ _ _ st; clear st))
      all_goals exact ⟨rfl, ST.out⟩
    case right =>
    intro W hW
    have FW := Lib.hid (FIN.out W hW)
    clear hW FIN C14 C41 HC ST x1 x2 lb
    go_wp2_with fail
    go_ret
    exact FW.out
  by_cases hd3 : xd = 3
  · subst hd3
    go_enter Try.func25, Try.ntmps25
    go_wp2_with fail
    rw [HW1.out]
    have x0 : w1.cell? ⟨w.heap.size, 0, none⟩ = some (.int .i64 3) := cell_at ST.out.o 0
    have x1 : w1.cell? ⟨w.heap.size, 1, none⟩ = some (.int .i64 xp) := cell_at ST.out.o 1
    have x2 : w1.cell? ⟨w.heap.size, 2, none⟩ = some (.int .i64 xv) := cell_at ST.out.o 2
    have x3 : w1.cell? ⟨w.heap.size, 3, none⟩ = some (.int .u8 xi) := cell_at ST.out.o 3
    have x4 : w1.cell? ⟨w.heap.size, 4, none⟩ = some (.slice xo xn xc) := cell_at ST.out.o 4
    refine (duo_done ST.out.d OK.out (by omega)).mono ?_
    rintro e w2 ⟨v2, Y, rfl, ev2, hXY, d2, k2⟩
    have D2 := Lib.hid d2
    have K2 : Hid (Keeps (NX (AX X w w1)) w1 w2) := Lib.hid (ST.out.k.trans k2)
    have E2 := Lib.hid ev2
    have XY := Lib.hid hXY
    clear ev2 hXY d2 k2 x0 x1 x2 x3 x4 lb
    have O2 := Lib.hid ((K2.out.block _ (lt_of_obj ST.out.o) fun hn => hn XB.out).trans ST.out.o)
    clear ST
    go_wp2_with fail
    refine (duo_rdone D2.out OK.out REL.out (by omega)).mono ?_
    rintro e w3 ⟨v3, rfl, ev3, d3, k3⟩
    have ES := Lib.hid (ends_same (E2.out.keep k3) ev3)
    have S3 : Hid (VSt w1 (AX X w w1) b rb w.heap.size #[.int .i64 3, .int .i64 xp, .int .i64 xv, .int .u8 xi, .slice xo xn xc] (R.drop (doneN S)) w3 (dropS S (doneN S)) (dropS S (doneN S))) := Lib.hid ⟨d3.mono XY.out, K2.out.trans (k3.mono fun n hn hx => hn (XY.out n hx)), (k3.block _ (lt_of_obj O2.out) fun hn => hn (XY.out _ XB.out)).trans O2.out⟩
    clear ev3 d3 k3 E2 D2 K2 O2 XY
    go_wp2_with fail
    refine ES.out.mono ?_
    rintro e w4 ⟨rfl, b4⟩
    have FIN := Lib.hid (HE.out w4 _ _ (S3.out.next XB.out (S3.out.d.below b4) (Keeps.of_below b4)) (OK.out.dropS _) (REL.out.drop _) (by unfold dropS; simp; omega) (by unfold dropS; simp; omega))
    clear b4 S3 HE ES
    go_wp2_with fail
    go_ret
    exact FIN.out
  go_enter Try.func25, Try.ntmps25
  go_wp2_with fail
  rw [HW1.out]
  have x0 : w1.cell? ⟨w.heap.size, 0, none⟩ = some (.int .i64 xd) := cell_at ST.out.o 0
  have x1 : w1.cell? ⟨w.heap.size, 1, none⟩ = some (.int .i64 xp) := cell_at ST.out.o 1
  have x2 : w1.cell? ⟨w.heap.size, 2, none⟩ = some (.int .i64 xv) := cell_at ST.out.o 2
  have x3 : w1.cell? ⟨w.heap.size, 3, none⟩ = some (.int .u8 xi) := cell_at ST.out.o 3
  have x4 : w1.cell? ⟨w.heap.size, 4, none⟩ = some (.slice xo xn xc) := cell_at ST.out.o 4
  refine (duo_left ST.out.d OK.out xp).mono ?_
  rintro e w2 ⟨rfl, b2⟩
  have S2 := Lib.hid (ST.out.next XB.out (ST.out.d.below b2) (Keeps.of_below b2))
  clear b2 x0 x1 x2 x3 x4 lb ST
  have x1 : w2.cell? ⟨w.heap.size, 1, none⟩ = some (.int .i64 xp) := cell_at S2.out.o 1
  have lb := lt_of_obj S2.out.o
  go_wp2_with fail
  refine (duo_rleft S2.out.d OK.out REL.out (by omega) xp).mono ?_
  rintro e w3 ⟨rfl, b3⟩
  have S3 := Lib.hid (S2.out.next XB.out (S2.out.d.below b3) (Keeps.of_below b3))
  clear b3 x1 lb S2
  have x1 : w3.cell? ⟨w.heap.size, 1, none⟩ = some (.int .i64 xp) := cell_at S3.out.o 1
  have x2 : w3.cell? ⟨w.heap.size, 2, none⟩ = some (.int .i64 xv) := cell_at S3.out.o 2
  have lb := lt_of_obj S3.out.o
  have hl9 : S.l.length ≤ 100000 := by omega
  have HW := Lib.hid (fun y : Later w3 => duo_waits (S3.out.d.below y.h) OK.out xp xv)
  have HR := Lib.hid (fun y : Later w3 => duo_rwaits (S3.out.d.below y.h) OK.out REL.out hl9 xp xv)
  have FIN : Hid (∀ W, Below w3.heap.size w3 W → DoesR w X b rb (k + 1) (.returned (.bool true)) W) := Lib.hid (fun W hb => HE.out W _ _ (S3.out.next XB.out (S3.out.d.below hb) (Keeps.of_below hb)) OK.out REL.out (by omega) (by omega))
  generalize (leftM S xp).1 = l1 at *
  generalize (leftM S xp).2 = l2 at *
  generalize waitsM S xp xv = wb at *
  have e1 : (l1 == l1) = true := by simp
  have e2 : (l2 == l2) = true := by simp
  have e3 : (wb == wb) = true := by simp
  clear HE S3 OK REL SL HX B1
  go_wp2_with fail
  refine wp_region_later w3 (Below.refl _ _) (by kernel_rfl) (by kernel_rfl) ?_
  repeat (go_big_quiet_step (first | (go_at_call 12; with_reducible exact Calls.later (HW.out _)) | (go_at_call 44; with_reducible exact Calls.later (HR.out _))))
  refine wpQuiet_nil ?_
  intro _ hxx
  obtain ⟨⟨w6, b6⟩, hxx⟩ := hxx
  subst hxx
  rename_i w6
  have FW := Lib.hid (FIN.out _ b6)
  clear b6 FIN HW HR
  go_wp2_with fail
  go_ret
  exact FW.out
end Go.Proofs.Ytfejhekoijemdaa
