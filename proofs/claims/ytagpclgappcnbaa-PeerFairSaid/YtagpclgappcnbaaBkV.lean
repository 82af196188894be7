import Derived.Test.YtagpclgappcnbaaBkQ
import Derived.Test.YtagpclgappcnbaaBkX
namespace Go.Proofs.Ytagpclgappcnbaa
open Go.RowKit

/-! ### a book that was made, and what lies beside it -/
def Free (F : Nat → Prop) (b : Nat) (p : PD) (n : Nat) : Prop := ¬ Own F b p n ∧ (∀ a, p.la = some a → a.block ≠ n) ∧ ∀ a, p.sa = some a → a.block ≠ n
structure BkAt (W : World) (X : Nat → Prop) (b : Nat) (M : PM) : Prop where
  inv : PInv M
  lt : ∀ n, X n → n < W.heap.size
  ex : ∃ F p, PeerAt W F b p M ∧ ∀ n, X n → Free F b p n
theorem BkAt.blt {W : World} {X : Nat → Prop} {b : Nat} {M : PM} (h : BkAt W X b M) : b < W.heap.size := by
  obtain ⟨F, p, h1, _⟩ := h.ex
  exact h1.lt
theorem BkAt.below {W W' : World} {X : Nat → Prop} {b : Nat} {M : PM} (h : BkAt W X b M) (hb : Below W.heap.size W W') : BkAt W' X b M := by
  obtain ⟨F, p, h1, h2⟩ := h.ex
  exact ⟨h.inv, fun n hn => by have := h.lt n hn; have := hb.size; omega, F, p, h1.below hb, h2⟩
theorem BkAt.mono {W : World} {X Y : Nat → Prop} {b : Nat} {M : PM} (h : BkAt W X b M) (hy : ∀ n, Y n → X n) : BkAt W Y b M := by
  obtain ⟨F, p, h1, h2⟩ := h.ex
  exact ⟨h.inv, fun n hn => h.lt n (hy n hn), F, p, h1, fun n hn => h2 n (hy n hn)⟩
/-- blocks made since lie beside the book -/
theorem BkAt.more {W W' : World} {X : Nat → Prop} {b : Nat} {M : PM} (h : BkAt W X b M) (hb : Below W.heap.size W W') : BkAt W' (fun n => X n ∨ (W.heap.size ≤ n ∧ n < W'.heap.size)) b M := by
  obtain ⟨F, p, h1, h2⟩ := h.ex
  refine ⟨h.inv, fun n hn => ?_, F, p, h1.below hb, fun n hn => ?_⟩
  · rcases hn with hn | hn
    · have := h.lt n hn; have := hb.size; omega
    · exact hn.2
  · rcases hn with hn | hn
    · exact h2 n hn
    · have hp := h.inv.pok
      refine ⟨fun ho => by have := h1.own_lt ho; omega, fun a e => ?_, fun a e => ?_⟩
      · have := h1.l.blk hp.l e; omega
      · have := h1.seats.blk hp.s e; omega
/-- what lies beside the book changes -/
theorem BkAt.beside {W W' : World} {X : Nat → Prop} {b : Nat} {M : PM} (h : BkAt W X b M) (hk : Keeps X W W') : BkAt W' X b M := by
  obtain ⟨F, p, h1, h2⟩ := h.ex
  have hp := h.inv.pok
  refine ⟨h.inv, fun n hn => Nat.lt_of_lt_of_le (h.lt n hn) hk.size, F, p, ?_, h2⟩
  exact h1.keep hk (fun n hn => (h2 n hn).1) (fun a e hx => (h2 _ hx).2.1 a e rfl) (fun a e hx => (h2 _ hx).2.2 a e rfl) (fun a e => h1.l.blk hp.l e) (fun a e => h1.seats.blk hp.s e)
theorem free_after {w : World} {X F : Nat → Prop} {b : Nat} {p p' : PD} (hx : ∀ n, X n → Free F b p n) (hlt : ∀ n, X n → n < w.heap.size) (hs : SameN w p p') : ∀ n, X n → Free F b p' n := fun n hn => by
  obtain ⟨h1, h2, h3⟩ := hx n hn
  refine ⟨fun ho => h1 (hs.1.own.1 ho), fun a e => h2 a (by rw [← hs.1.2.2.2.2.2.1]; exact e), fun a e => ?_⟩
  rcases hs.2 a e with e | e
  · exact h3 a e
  · have := hlt n hn; omega
theorem ask_bk (W : World) (X : Nat → Prop) (b : Nat) (M : PM) (v kind now : Int) (h : BkAt W X b M) : Calls Try.prog 13 #[.pointer (some ⟨b, 0, none⟩), .int .i64 v, .int .i64 kind, .int .i64 now] W fun e w' =>
    e = .returned (.tuple #[.int .i64 (askP M v kind now).2.1, .bool (askP M v kind now).2.2.1, .int .i64 (askP M v kind now).2.2.2]) ∧ BkAt w' X b (askP M v kind now).1 ∧ Keeps (fun n => ¬ X n) W w' := by
  obtain ⟨F, p, h1, h2⟩ := h.ex
  refine (ask_any W F b p M v kind now h1 h.inv.pok).mono ?_
  rintro e w' ⟨rfl, ⟨F', h3, h4⟩, hk⟩
  refine ⟨rfl, ⟨h.inv.askP v kind now, fun n hn => Nat.lt_of_lt_of_le (h.lt n hn) hk.size, F', p, h3, fun n hn => ?_⟩, hk.mono fun n hn hx => (h2 n hx).1 hn⟩
  obtain ⟨g1, g2⟩ := h2 n hn
  refine ⟨fun ho => g1 ?_, g2⟩
  rcases ho with ho | ho
  · rcases h4 n ho with ho | ho
    · exact .inl ho
    · have := h.lt n hn; omega
  · exact .inr ho
theorem got_bk (W : World) (X : Nat → Prop) (b : Nat) (M : PM) (v id kind now : Int) (h : BkAt W X b M) : Calls Try.prog 14 #[.pointer (some ⟨b, 0, none⟩), .int .i64 v, .int .i64 id, .int .i64 kind, .int .i64 now] W fun e w' =>
    e = .returned (.tuple #[Ak.askV (gotP M v id kind now).2.1, .int .i64 (gotP M v id kind now).2.2]) ∧ BkAt w' X b (gotP M v id kind now).1 ∧ Keeps (fun n => ¬ X n) W w' := by
  obtain ⟨F, p, h1, h2⟩ := h.ex
  refine (got_any W F b p M v id kind now h1 h.inv.pok h.inv.may (fun hE => ?_)).mono ?_
  · obtain ⟨a, _, _, _, g1, g2, _⟩ := PInvW.got h.inv hE
    have := PInvW.seats_len h.inv
    exact ⟨v.toNat, by omega, by omega⟩
  · rintro e w' ⟨rfl, ⟨p', h3, h4⟩, hk⟩
    exact ⟨rfl, ⟨h.inv.gotP v id kind now, fun n hn => Nat.lt_of_lt_of_le (h.lt n hn) hk.size, F, p', h4, free_after h2 h.lt h3⟩, hk.mono fun n hn hx => (h2 n hx).1 hn⟩
theorem tick_bk (W : World) (X : Nat → Prop) (b : Nat) (M : PM) (now : Int) (h : BkAt W X b M) : Calls Try.prog 15 #[.pointer (some ⟨b, 0, none⟩), .int .i64 now] W fun e w' =>
    ∃ v, e = .returned (.tuple #[v, .int .i64 (tickP M now).2.2]) ∧ OwnS w' W.heap.size 47 3 akL v (tickP M now).2.1 ∧ BkAt w' X b (tickP M now).1 ∧ Keeps (fun n => ¬ X n) W w' := by
  obtain ⟨F, p, h1, h2⟩ := h.ex
  have hp := h.inv.pok
  refine (tick_any W F b p M now h1 (fun hE => (PInvW.tickF (h.inv.tick0 hE)).1) hp.l hp.s).mono ?_
  rintro e w' ⟨v, rfl, ho, ⟨p', h3, h4⟩, hk⟩
  exact ⟨v, rfl, ho, ⟨h.inv.tickP now, fun n hn => Nat.lt_of_lt_of_le (h.lt n hn) hk.size, F, p', h4, free_after h2 h.lt h3⟩, hk.mono fun n hn hx => (h2 n hx).1 hn⟩
/-! ### what only tells -/
section
variable (W : World) (X : Nat → Prop) (b : Nat) (M : PM) (h : BkAt W X b M)
include h
theorem timeout_bk : Calls Try.prog 19 #[.pointer (some ⟨b, 0, none⟩)] W fun e w' => e = .returned (.int .i64 (Me.tmoR M.cfg.r M.wait)) ∧ Below W.heap.size W w' := by
  obtain ⟨F, p, h1, _⟩ := h.ex
  exact timeout_any W F b p M h1
theorem benched_bk (v : Int) : Calls Try.prog 12 #[.pointer (some ⟨b, 0, none⟩), .int .i64 v] W fun e w' => e = .returned (.bool (Be.isB M.seats v M.now)) ∧ Below W.heap.size W w' := by
  obtain ⟨F, p, h1, _⟩ := h.ex
  exact benched_any W F b p M v h1
theorem due_bk (id : Int) : Calls Try.prog 18 #[.pointer (some ⟨b, 0, none⟩), .int .i64 id] W fun e w' => e = .returned (.tuple #[.int .i64 (Al.atT M.W id), .int .i64 (Al.dropE M.W id)]) ∧ w' = W := by
  obtain ⟨F, p, h1, _⟩ := h.ex
  exact due_any W F b p M id h1
theorem next_bk : Calls Try.prog 20 #[.pointer (some ⟨b, 0, none⟩)] W fun e w' => e = .returned (.tuple #[.int .i64 (Al.at' M.W 0).1, .int .i64 (Al.peekE M.W)]) ∧ Below W.heap.size W w' := by
  obtain ⟨F, p, h1, _⟩ := h.ex
  exact next_any W F b p M h1
theorem now_bk : Calls Try.prog 11 #[.pointer (some ⟨b, 0, none⟩)] W fun e w' => e = .returned (.int .i64 M.now) ∧ w' = W := by
  obtain ⟨F, p, h1, _⟩ := h.ex
  exact now_any W F b p M h1
theorem len_bk : Calls Try.prog 21 #[.pointer (some ⟨b, 0, none⟩)] W fun e w' => e = .returned (.int .i64 M.A.L.length) ∧ Below W.heap.size W w' := by
  obtain ⟨F, p, h1, _⟩ := h.ex
  exact len_any W F b p M h1
theorem stat_bk : Calls Try.prog 22 #[.pointer (some ⟨b, 0, none⟩)] W fun e w' => e = .returned (.agg #[.int .i64 M.A.asked, .int .i64 M.A.ans, .int .i64 M.A.exp]) ∧ Below W.heap.size W w' := by
  obtain ⟨F, p, h1, _⟩ := h.ex
  exact stat_any W F b p M h1
end
/-! ### a new book -/
theorem newE_0 {c : CfgD} {l : List Be.Vd} {now : Int} (h : newE c l now = 0) : pchkE c = 0 ∧ Be.chk l = 0 ∧ 0 ≤ now ∧ now ≤ 4611686018427387903 := by
  unfold newE at h
  split at h
  · rename_i h1; exact absurd h h1
  · rename_i h1
    split at h
    · rename_i h2; exact absurd h h2
    · rename_i h2
      split at h
      · cases h
      · exact ⟨by omega, by omega, by omega, by omega⟩
theorem PInv.new {c : CfgD} {l : List Be.Vd} {now : Int} (h : newE c l now = 0) (hde : c.q.de < 9223372036854775808) : PInv (newM c l now) := by
  obtain ⟨h1, h2, h3, h4⟩ := newE_0 h
  obtain ⟨r1, r2, r3, r4⟩ := pchk_0 h1
  have hn := Me.newV_bd r3
  refine ⟨?_, ⟨r3, hn.1, hn.2, h3, h4⟩, Int.le_refl _, h3, h4, hde, fun p hp => (by cases hp), List.nodup_nil, List.nodup_nil, fun k => rfl, fun x hx => (by cases hx), r2, ?_, rfl, ⟨Int.le_refl _, by show (0 : Int) ≤ 2147483647; omega⟩, Int.le_refl _, ⟨Int.le_refl _, Int.le_refl _⟩⟩
  · unfold Be.mayE
    show (if Be.ruleE c.q = 0 ∧ Be.chk l = 0 ∧ (List.replicate l.length (⟨0, 0, 0⟩ : Be.St)).length = l.length ∧ (List.replicate l.length (⟨0, 0, 0⟩ : Be.St)).all Be.mayB = true then (0 : Int) else 150) = 0
    have hall : (List.replicate l.length (⟨0, 0, 0⟩ : Be.St)).all Be.mayB = true := by
      rw [List.all_eq_true]
      intro x hx
      rw [List.eq_of_mem_replicate hx]
      decide
    rw [if_pos ⟨r4, h2, by simp, hall⟩]
  · show (0 : Int) ≤ c.room
    omega
theorem new_bk (W : World) (c : CfgD) (v : Value) (l : List Be.Vd) (now : Int) (h : SlIn W v 2 Be.vdL l) (hde : c.q.de < 9223372036854775808) : Calls Try.prog 9 #[.agg (cfgC c), v, .int .i64 now] W fun e w' =>
    Below W.heap.size W w' ∧ (newE c l now ≠ 0 → e = .returned (.tuple #[.pointer none, .int .i64 (newE c l now)])) ∧ (newE c l now = 0 → ∃ b, e = .returned (.tuple #[.pointer (some ⟨b, 0, none⟩), .int .i64 0]) ∧ BkAt w' (fun n => n < W.heap.size) b (newM c l now)) := by
  refine (new_any W c v l now h).mono ?_
  rintro e w' ⟨h1, h2, h3⟩
  refine ⟨h1, h2, fun h0 => ?_⟩
  obtain ⟨⟨b, p, F, rfl, g1, g2, g3, g4⟩⟩ := h3 h0
  exact ⟨b, rfl, PInv.new h0 hde, fun n hn => Nat.lt_of_lt_of_le hn h1.size, F, p, g1, fun n hn => ⟨fun ho => by have := g2 n ho; omega, fun a e => by have := g3 a e; omega, fun a e => by have := g4 a e; omega⟩⟩
end Go.Proofs.Ytagpclgappcnbaa
