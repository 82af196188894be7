import Derived.Test.YtagpclgappcnbaaAkD
import Derived.Test.YtagpclgappcnbaaAlN
import Derived.Test.YtagpclgappcnbaaMeM
import Derived.Test.YtagpclgappcnbaaBeReplied
import Derived.Deep.RegionHeld3
namespace Go.Proofs.Ytagpclgappcnbaa
open Go.RowKit

/-! ### a book of requests, as plain data, and as it lies in memory -/
structure CfgD where
  room : Int
  r : Me.RuleD
  q : Be.Rul
structure PM where
  cfg : CfgD
  l : List Be.Vd
  now : Int
  wait : Me.MeanD
  seats : List Be.St
  asked : List (Int × Int)
  A : Ak.BookD
  W : List Al.Al
structure PD where
  ib : Nat
  ab : Nat
  am : Nat
  hb : Nat
  qm : Nat
  la : Option Addr
  lc : Nat
  sa : Option Addr
  sc : Nat
def bkC (p : PD) (M : PM) : Array Value := #[.pointer (some ⟨p.ib, 0, none⟩), .int .i64 M.cfg.room, .int .i64 M.cfg.r.first, .int .i64 M.cfg.r.min, .int .i64 M.cfg.r.max, .int .i64 M.cfg.r.half, .int .i64 M.cfg.r.quart, .int .i64 M.cfg.q.f, .int .i64 M.cfg.q.lo, .int .i64 M.cfg.q.fo, .int .i64 M.cfg.q.nu, .int .i64 M.cfg.q.de, .slice p.la M.l.length p.lc, .int .i64 M.now, .int .i64 M.wait.value, .int .i64 M.wait.at_, .slice p.sa M.seats.length p.sc, .map (some p.qm)]
def Apart (F : Nat → Prop) (b : Nat) (p : PD) (n : Nat) : Prop := ¬ F n ∧ n ≠ b ∧ n ≠ p.ib ∧ n ≠ p.ab ∧ n ≠ p.am ∧ n ≠ p.qm
structure PeerAt (w : World) (F : Nat → Prop) (b : Nat) (p : PD) (M : PM) : Prop where
  box : obj w b = some (.cells (bkC p M) 73 (0, 0))
  inn : obj w p.ib = some (.cells #[.pointer (some ⟨p.ab, 0, none⟩), .pointer (some ⟨p.hb, 0, none⟩)] 93 (0, 0))
  asks : Ak.BookAt w p.ab p.am M.A
  stamp : Ak.StampM w p.am
  heap : Al.Hp w F p.hb M.W
  l : SlIn w (.slice p.la M.l.length p.lc) 2 Be.vdL M.l
  seats : SlIn w (.slice p.sa M.seats.length p.sc) 3 Be.stL M.seats
  asked : MapI w p.qm Al.intV M.asked
  lf : ∀ a, p.la = some a → Apart F b p a.block
  sf : ∀ a, p.sa = some a → Apart F b p a.block
  fb : ¬ F b
  fi : ¬ F p.ib
  fa : ¬ F p.ab
  fm : ¬ F p.am
  fq : ¬ F p.qm
  mq : p.am ≠ p.qm
  stq : Ak.StampM w p.qm
/-- what a world must not touch for the book to stand as it stood -/
def Own (F : Nat → Prop) (b : Nat) (p : PD) (n : Nat) : Prop := F n ∨ n = b ∨ n = p.ib ∨ n = p.ab ∨ n = p.am ∨ n = p.qm
theorem PeerAt.bne {w : World} {F : Nat → Prop} {b : Nat} {p : PD} {M : PM} (h : PeerAt w F b p M) : b ≠ p.ib ∧ b ≠ p.ab ∧ b ≠ p.am ∧ b ≠ p.qm ∧ p.ib ≠ p.ab ∧ p.ib ≠ p.am ∧ p.ib ≠ p.qm ∧ p.ab ≠ p.am ∧ p.ab ≠ p.qm := by
  have h1 := h.box
  have h2 := h.inn
  have h3 := h.asks.cells
  obtain ⟨es, clk, h4, _⟩ := h.asks.map
  obtain ⟨es', clk', h5, _⟩ := h.asked
  refine ⟨?_, ?_, ?_, ?_, ?_, ?_, ?_, ?_, ?_⟩ <;> intro e
  · rw [e, h2] at h1; simp at h1
  · rw [e, h3] at h1; simp at h1
  · rw [e, h4] at h1; cases h1
  · rw [e, h5] at h1; cases h1
  · rw [e, h3] at h2; simp at h2
  · rw [e, h4] at h2; cases h2
  · rw [e, h5] at h2; cases h2
  · rw [e, h4] at h3; cases h3
  · rw [e, h5] at h3; cases h3
theorem SlIn.of_block {α : Type} {w W : World} {oa : Option Addr} {n cap k : Nat} {enc : α → List Value} {xs : List α} (h : SlIn w (.slice oa n cap) k enc xs) (hz : w.heap.size ≤ W.heap.size) (hk : ∀ a, oa = some a → obj W a.block = obj w a.block) : SlIn W (.slice oa n cap) k enc xs := by
  obtain ⟨oa', cap', e, h2, h3, h4⟩ := h
  simp only [Value.slice.injEq] at e
  obtain ⟨rfl, rfl, rfl⟩ := e
  refine ⟨oa, cap, rfl, h2, h3, fun hl => ?_⟩
  obtain ⟨b, off, e, hb, hr⟩ := h4 hl
  exact ⟨b, off, e, Nat.lt_of_lt_of_le hb hz, hr.of_obj (hk _ e)⟩
theorem PeerAt.keep {w w' : World} {F : Nat → Prop} {b : Nat} {p : PD} {M : PM} (h : PeerAt w F b p M) {G : Nat → Prop} (hk : Keeps G w w') (hG : ∀ n, G n → ¬ Own F b p n) (hl : ∀ a, p.la = some a → ¬ G a.block) (hs : ∀ a, p.sa = some a → ¬ G a.block) (hlz : ∀ a, p.la = some a → a.block < w.heap.size) (hsz : ∀ a, p.sa = some a → a.block < w.heap.size) : PeerAt w' F b p M := by
  have q : ∀ n, n < w.heap.size → Own F b p n → obj w' n = obj w n := fun n hn ho => hk.block n hn (fun hg => hG n hg ho)
  exact ⟨(q _ (lt_of_obj h.box) (.inr (.inl rfl))).trans h.box, (q _ (lt_of_obj h.inn) (.inr (.inr (.inl rfl)))).trans h.inn,
    ⟨(q _ h.asks.lt (.inr (.inr (.inr (.inl rfl))))).trans h.asks.cells, h.asks.map.of_heap (q _ h.asks.mlt (.inr (.inr (.inr (.inr (.inl rfl))))))⟩,
    h.stamp.of_obj (q _ h.asks.mlt (.inr (.inr (.inr (.inr (.inl rfl)))))), h.heap.of_obj hk.size fun n hn hf => q n hn (.inl hf),
    h.l.of_block hk.size fun a e => hk.block _ (hlz a e) (hl a e), h.seats.of_block hk.size fun a e => hk.block _ (hsz a e) (hs a e),
    h.asked.of_heap (q _ h.asked.lt (.inr (.inr (.inr (.inr (.inr rfl)))))), h.lf, h.sf, h.fb, h.fi, h.fa, h.fm, h.fq, h.mq, h.stq.of_obj (q _ h.asked.lt (.inr (.inr (.inr (.inr (.inr rfl))))))⟩
end Go.Proofs.Ytagpclgappcnbaa
namespace Go.Proofs.Ytagpclgappcnbaa
open Go.RowKit

theorem PeerAt.lt {w : World} {F : Nat → Prop} {b : Nat} {p : PD} {M : PM} (h : PeerAt w F b p M) : b < w.heap.size := lt_of_obj h.box
theorem PeerAt.below {w w' : World} {F : Nat → Prop} {b : Nat} {p : PD} {M : PM} (h : PeerAt w F b p M) (hb : Below w.heap.size w w') : PeerAt w' F b p M :=
  ⟨(obj_below hb (lt_of_obj h.box)).trans h.box, (obj_below hb (lt_of_obj h.inn)).trans h.inn, h.asks.below hb, h.stamp.of_obj (obj_below hb h.asks.mlt), h.heap.below hb, h.l.below hb, h.seats.below hb,
    h.asked.of_heap (obj_below hb h.asked.lt), h.lf, h.sf, h.fb, h.fi, h.fa, h.fm, h.fq, h.mq, h.stq.of_obj (obj_below hb h.asked.lt)⟩
/-- a store into the book's own cells -/
theorem PeerAt.setBox {w : World} {F : Nat → Prop} {b : Nat} {p : PD} {M : PM} (h : PeerAt w F b p M) {i : Nat} {v : Value} {M' : PM} (e : (bkC p M).setIfInBounds i v = bkC p M') (e1 : M'.A = M.A) (e2 : M'.W = M.W) (e3 : M'.l = M.l) (e4 : M'.seats = M.seats) (e5 : M'.asked = M.asked) :
    PeerAt (w.setCell ⟨b, i, none⟩ v) F b p M' := by
  obtain ⟨n1, n2, n3, n4, -, -, -, -, -⟩ := h.bne
  have q : ∀ n, n ≠ b → obj (w.setCell ⟨b, i, none⟩ v) n = obj w n := fun n hn => obj_setCell_ne _ ⟨b, i, none⟩ _ _ hn
  have hz : w.heap.size ≤ (w.setCell ⟨b, i, none⟩ v).heap.size := by simp
  refine ⟨?_, (q _ n1.symm).trans h.inn, ?_, h.stamp.of_obj (q _ n3.symm), ?_, ?_, ?_, ?_, h.lf, h.sf, h.fb, h.fi, h.fa, h.fm, h.fq, h.mq, h.stq.of_obj (q _ n4.symm)⟩
  · have := obj_setCell_at v (i := i) h.box
    rw [e] at this
    exact this
  · rw [e1]; exact ⟨(q _ n2.symm).trans h.asks.cells, h.asks.map.of_heap (q _ n3.symm)⟩
  · rw [e2]; exact h.heap.of_obj hz fun n hn hf => q n (fun e => h.fb (by rw [← e]; exact hf))
  · rw [e3]; exact h.l.of_block hz fun a ea => q _ (h.lf a ea).2.1
  · rw [e4]; exact h.seats.of_block hz fun a ea => q _ (h.sf a ea).2.1
  · rw [e5]; exact h.asked.of_heap (q _ n4.symm)
/-- the cells of a book that the methods read -/
theorem PeerAt.cells {w : World} {F : Nat → Prop} {b : Nat} {p : PD} {M : PM} (h : PeerAt w F b p M) : w.cell? ⟨b, 0, none⟩ = some (.pointer (some ⟨p.ib, 0, none⟩)) ∧ w.cell? ⟨b, 12, none⟩ = some (.slice p.la M.l.length p.lc) ∧ w.cell? ⟨b, 13, none⟩ = some (.int .i64 M.now) ∧ w.cell? ⟨b, 16, none⟩ = some (.slice p.sa M.seats.length p.sc) ∧ w.cell? ⟨b, 17, none⟩ = some (.map (some p.qm)) ∧
    w.cell? ⟨p.ib, 0, none⟩ = some (.pointer (some ⟨p.ab, 0, none⟩)) ∧ w.cell? ⟨p.ib, 1, none⟩ = some (.pointer (some ⟨p.hb, 0, none⟩)) :=
  ⟨cell_at h.box 0, cell_at h.box 12, cell_at h.box 13, cell_at h.box 16, cell_at h.box 17, cell_at h.inn 0, cell_at h.inn 1⟩
theorem PeerAt.rule {w : World} {F : Nat → Prop} {b : Nat} {p : PD} {M : PM} (h : PeerAt w F b p M) : w.cell? ⟨b, 2, none⟩ = some (.int .i64 M.cfg.r.first) ∧ w.cell? ⟨b, 3, none⟩ = some (.int .i64 M.cfg.r.min) ∧ w.cell? ⟨b, 4, none⟩ = some (.int .i64 M.cfg.r.max) ∧ w.cell? ⟨b, 5, none⟩ = some (.int .i64 M.cfg.r.half) ∧ w.cell? ⟨b, 6, none⟩ = some (.int .i64 M.cfg.r.quart) ∧
    w.cell? ⟨b, 14, none⟩ = some (.int .i64 M.wait.value) ∧ w.cell? ⟨b, 15, none⟩ = some (.int .i64 M.wait.at_) :=
  ⟨cell_at h.box 2, cell_at h.box 3, cell_at h.box 4, cell_at h.box 5, cell_at h.box 6, cell_at h.box 14, cell_at h.box 15⟩
theorem PeerAt.bench {w : World} {F : Nat → Prop} {b : Nat} {p : PD} {M : PM} (h : PeerAt w F b p M) : w.cell? ⟨b, 7, none⟩ = some (.int .i64 M.cfg.q.f) ∧ w.cell? ⟨b, 8, none⟩ = some (.int .i64 M.cfg.q.lo) ∧ w.cell? ⟨b, 9, none⟩ = some (.int .i64 M.cfg.q.fo) ∧ w.cell? ⟨b, 10, none⟩ = some (.int .i64 M.cfg.q.nu) ∧ w.cell? ⟨b, 11, none⟩ = some (.int .i64 M.cfg.q.de) :=
  ⟨cell_at h.box 7, cell_at h.box 8, cell_at h.box 9, cell_at h.box 10, cell_at h.box 11⟩
set_option maxRecDepth 100000 in
theorem none_no (w : World) (F : Nat → Prop) (b : Nat) (p : PD) (M : PM) (h : PeerAt w F b p M) : Calls Try.prog 34 #[.pointer (some ⟨b, 0, none⟩)] w fun e w' => e = .returned (.bool false) ∧ w' = w := by
  obtain ⟨c0, -, -, -, -, -, -⟩ := h.cells
  go_enter Try.func34, Try.ntmps34
  go_wp2_with fail
  go_ret
  exact ⟨rfl, rfl⟩
def comesE (M : PM) (now : Int) : Int := if now < M.now ∨ 4611686018427387903 < now then 131 else 0
def comesM (M : PM) (now : Int) : PM := if comesE M now = 0 then { M with now := now } else M
set_option maxRecDepth 100000 in
theorem comes_any (w : World) (F : Nat → Prop) (b : Nat) (p : PD) (M : PM) (now : Int) (h : PeerAt w F b p M) : Calls Try.prog 36 #[.pointer (some ⟨b, 0, none⟩), .int .i64 now] w fun e w' => e = .returned (.int .i64 (comesE M now)) ∧ PeerAt w' F b p (comesM M now) ∧ Keeps (fun n => n = b) w w' := by
  have H := Lib.hid h
  have hbl := h.lt
  obtain ⟨-, -, c13, -, -, -, -⟩ := h.cells
  have yf := frozen_at h.box
  clear h
  go_enter Try.func36, Try.ntmps36
  go_wp2_with fail
  refine (none_no _ F b p M H.out).mono ?_
  rintro e w2 ⟨rfl, rfl⟩
  by_cases h1 : now < M.now
  · have HE : Hid (comesE M now = 131) := Lib.hid (if_pos (.inl h1))
    go_wp2_with fail
    go_ret
    exact ⟨by rw [HE.out]; rfl, by unfold comesM; rw [HE.out, if_neg (by decide)]; exact H.out, Keeps.refl _ _⟩
  · by_cases h2 : 4611686018427387903 < now
    · have HE : Hid (comesE M now = 131) := Lib.hid (if_pos (.inr h2))
      go_wp2_with fail
      go_ret
      exact ⟨by rw [HE.out]; rfl, by unfold comesM; rw [HE.out, if_neg (by decide)]; exact H.out, Keeps.refl _ _⟩
    · have HE : Hid (comesE M now = 0) := Lib.hid (if_neg (fun hh => hh.elim h1 h2))
      have H2 : Hid (PeerAt (w2.setCell ⟨b, 13, none⟩ (.int .i64 now)) F b p { M with now := now }) := Lib.hid (H.out.setBox rfl rfl rfl rfl rfl rfl)
      go_wp2_with fail
      go_ret
      exact ⟨by rw [HE.out]; rfl, by unfold comesM; rw [HE.out, if_pos rfl]; exact H2.out, (Keeps.refl (fun n => n = b) w2).setCell (a := ⟨b, 13, none⟩) (.inl rfl) _⟩
set_option maxRecDepth 100000 in
theorem now_any (w : World) (F : Nat → Prop) (b : Nat) (p : PD) (M : PM) (h : PeerAt w F b p M) : Calls Try.prog 11 #[.pointer (some ⟨b, 0, none⟩)] w fun e w' => e = .returned (.int .i64 M.now) ∧ w' = w := by
  have H := Lib.hid h
  obtain ⟨-, -, c13, -, -, -, -⟩ := h.cells
  clear h
  go_enter Try.func11, Try.ntmps11
  go_wp2_with fail
  refine (none_no _ F b p M H.out).mono ?_
  rintro e w2 ⟨rfl, rfl⟩
  go_wp2_with fail
  go_ret
  exact ⟨rfl, rfl⟩
set_option maxRecDepth 100000 in
theorem len_any (w : World) (F : Nat → Prop) (b : Nat) (p : PD) (M : PM) (h : PeerAt w F b p M) : Calls Try.prog 21 #[.pointer (some ⟨b, 0, none⟩)] w fun e w' => e = .returned (.int .i64 M.A.L.length) ∧ Below w.heap.size w w' := by
  have H := Lib.hid h
  obtain ⟨c0, -, -, -, -, d0, -⟩ := h.cells
  clear h
  go_enter Try.func21, Try.ntmps21
  go_wp2_with fail
  refine (none_no _ F b p M H.out).mono ?_
  rintro e w2 ⟨rfl, rfl⟩
  have HC := Lib.hid (Ak.len_any w2 p.ab p.am M.A H.out.asks)
  go_wp2_with fail
  refine HC.out.mono ?_
  rintro e w3 ⟨rfl, h3⟩
  go_wp2_with fail
  go_ret
  first | exact ⟨rfl, h3⟩ | (subst h3; exact ⟨rfl, Below.refl _ _⟩)
end Go.Proofs.Ytagpclgappcnbaa
namespace Go.Proofs.Ytagpclgappcnbaa
open Go.RowKit

set_option maxRecDepth 100000 in
set_option maxHeartbeats 2000000 in
theorem timeout_any (w : World) (F : Nat → Prop) (b : Nat) (p : PD) (M : PM) (h : PeerAt w F b p M) : Calls Try.prog 19 #[.pointer (some ⟨b, 0, none⟩)] w fun e w' => e = .returned (.int .i64 (Me.tmoR M.cfg.r M.wait)) ∧ Below w.heap.size w w' := by
  have H := Lib.hid h
  have HC := Lib.hid (fun W => Me.tmo_any M.cfg.r M.wait W)
  obtain ⟨c2, c3, c4, c5, c6, c14, c15⟩ := h.rule
  generalize Me.tmoR M.cfg.r M.wait = T at *
  unfold Me.ruleV Me.meanV at HC
  clear h
  go_enter Try.func19, Try.ntmps19
  go_wp2_with fail
  refine (none_no _ F b p M H.out).mono ?_
  rintro e w2 ⟨rfl, rfl⟩
  go_wp2_with fail
  go_region_held3 (fun W => W.cell? ⟨b, 2, none⟩ = some (.int .i64 M.cfg.r.first) ∧ W.cell? ⟨b, 3, none⟩ = some (.int .i64 M.cfg.r.min) ∧ W.cell? ⟨b, 4, none⟩ = some (.int .i64 M.cfg.r.max) ∧ W.cell? ⟨b, 5, none⟩ = some (.int .i64 M.cfg.r.half) ∧ W.cell? ⟨b, 6, none⟩ = some (.int .i64 M.cfg.r.quart) ∧ W.cell? ⟨b, 14, none⟩ = some (.int .i64 M.wait.value) ∧ W.cell? ⟨b, 15, none⟩ = some (.int .i64 M.wait.at_))
    (first | exact ⟨c2, c3, c4, c5, c6, c14, c15⟩ | assumption)
    (first
      | (go_at_call 40; (with_reducible refine (HC.out _).mono ?_); rintro e w3 ⟨rfl, b3⟩; have s3 := (H.out.below ((Below.refl _ w2).drew.trans b3)).rule))
  go_wp2
  go_ret
  exact ⟨rfl, (Below.refl _ _).drew.trans b3⟩
set_option maxRecDepth 100000 in
set_option maxHeartbeats 2000000 in
theorem benched_any (w : World) (F : Nat → Prop) (b : Nat) (p : PD) (M : PM) (v : Int) (h : PeerAt w F b p M) : Calls Try.prog 12 #[.pointer (some ⟨b, 0, none⟩), .int .i64 v] w fun e w' => e = .returned (.bool (Be.isB M.seats v M.now)) ∧ Below w.heap.size w w' := by
  have H := Lib.hid (h.below (Below.refl _ w).drew)
  obtain ⟨c0, -, c13, c16, -, -, -⟩ := h.cells
  clear h
  go_enter Try.func12, Try.ntmps12
  go_wp2_with fail
  go_region_held3 (fun W => W = w.drew ∧ W.cell? ⟨b, 13, none⟩ = some (.int .i64 M.now) ∧ W.cell? ⟨b, 16, none⟩ = some (.slice p.sa M.seats.length p.sc))
    (first | exact ⟨rfl, c13, c16⟩ | assumption)
    (first
      | (go_at_call 34; (with_reducible refine (none_no _ F b p M H.out).mono ?_); rintro e w3 ⟨rfl, rfl⟩; have s3 : (w.drew = w.drew ∧ w.drew.cell? ⟨b, 13, none⟩ = some (.int .i64 M.now) ∧ w.drew.cell? ⟨b, 16, none⟩ = some (.slice p.sa M.seats.length p.sc)) := ⟨rfl, c13, c16⟩)
      | (go_at_call 35; (with_reducible refine (Be.is_any _ _ M.seats v M.now H.out.seats).mono ?_); rintro e w4 ⟨rfl, rfl⟩))
  go_wp2
  go_ret
  exact ⟨rfl, (Below.refl _ _).drew⟩
set_option maxRecDepth 100000 in
set_option maxHeartbeats 2000000 in
theorem due_any (w : World) (F : Nat → Prop) (b : Nat) (p : PD) (M : PM) (id : Int) (h : PeerAt w F b p M) : Calls Try.prog 18 #[.pointer (some ⟨b, 0, none⟩), .int .i64 id] w fun e w' => e = .returned (.tuple #[.int .i64 (Al.atT M.W id), .int .i64 (Al.dropE M.W id)]) ∧ w' = w := by
  have H := Lib.hid h
  obtain ⟨c0, -, -, -, -, -, d1⟩ := h.cells
  have HC := Lib.hid (Al.at_hp w F p.hb M.W id h.heap)
  clear h
  go_enter Try.func18, Try.ntmps18
  go_wp2_with fail
  refine (none_no _ F b p M H.out).mono ?_
  rintro e w2 ⟨rfl, rfl⟩
  go_wp2_with fail
  refine HC.out.mono ?_
  rintro e w3 ⟨rfl, rfl⟩
  go_wp2_with fail
  go_ret2
  exact ⟨rfl, rfl⟩
set_option maxRecDepth 100000 in
set_option maxHeartbeats 2000000 in
theorem next_any (w : World) (F : Nat → Prop) (b : Nat) (p : PD) (M : PM) (h : PeerAt w F b p M) : Calls Try.prog 20 #[.pointer (some ⟨b, 0, none⟩)] w fun e w' => e = .returned (.tuple #[.int .i64 (Al.at' M.W 0).1, .int .i64 (Al.peekE M.W)]) ∧ Below w.heap.size w w' := by
  have H := Lib.hid h
  obtain ⟨c0, -, -, -, -, -, d1⟩ := h.cells
  have HC := Lib.hid (Al.peek_hp w F p.hb M.W h.heap)
  clear h
  generalize Al.at' M.W 0 = x at *
  obtain ⟨x1, x2⟩ := x
  unfold Al.alV at HC
  go_enter Try.func20, Try.ntmps20
  go_wp2_with fail
  refine (none_no _ F b p M H.out).mono ?_
  rintro e w2 ⟨rfl, rfl⟩
  go_wp2_with fail
  refine HC.out.mono ?_
  rintro e w3 ⟨rfl, b3⟩
  go_wp2_with fail
  go_ret2
  exact ⟨rfl, b3.alloc b3.size _⟩
end Go.Proofs.Ytagpclgappcnbaa
namespace Go.Proofs.Ytagpclgappcnbaa.Ak
open Go.RowKit

/-! ### asks' acts, whatever is asked -/
structure AOK (S : BookD) : Prop where
  last : 0 ≤ S.last
  asked : 0 ≤ S.asked ∧ S.asked < 4611686018427387904
  ans : 0 ≤ S.ans ∧ S.ans < 4611686018427387904
  exp : 0 ≤ S.exp ∧ S.exp < 4611686018427387904
def askE (S : BookD) (node kind : Int) : Int := if node < 0 ∨ 32 ≤ node ∨ replyOf kind = 0 then 1 else if S.room ≤ S.L.length ∨ 2147483647 ≤ S.last then 6 else 0
def askS (S : BookD) (node kind : Int) : BookD := if askE S node kind = 0 then { S with last := S.last + 1, L := aPut (S.last + 1) ⟨S.last + 1, node, kind⟩ S.L, asked := S.asked + 1 } else S
def askI (S : BookD) (node kind : Int) : Int := if askE S node kind = 0 then S.last + 1 else 0
def Kp (b m : Nat) : Nat → Prop := fun k => k = b ∨ k = m
theorem StampM.below {w w' : World} {m : Nat} (h : StampM w m) (hm : m < w.heap.size) (hb : Below w.heap.size w w') : StampM w' m := h.of_obj (obj_below hb hm)
theorem ask_all (w : World) (b m : Nat) (S : BookD) (node kind : Int) (h : BookAt w b m S) (hS : StampM w m) (hO : AOK S) :
    Calls Try.prog 37 #[.pointer (some ⟨b, 0, none⟩), .int .i64 node, .int .i64 kind] w fun e w' => e = .returned (.tuple #[.int .i64 (askI S node kind), .int .i64 (askE S node kind)]) ∧ BookAt w' b m (askS S node kind) ∧ StampM w' m ∧ Keeps (Kp b m) w w' := by
  unfold askI askS
  by_cases h1 : node < 0 ∨ 32 ≤ node ∨ replyOf kind = 0
  · have hE : askE S node kind = 1 := if_pos h1
    rw [hE, if_neg (by decide), if_neg (by decide)]
    refine (ask_arg w b m S node kind h h1).mono ?_
    rintro e w' ⟨rfl, rfl⟩
    exact ⟨rfl, h, hS, Keeps.refl _ _⟩
  · by_cases h2 : S.room ≤ S.L.length ∨ 2147483647 ≤ S.last
    · have hE : askE S node kind = 6 := by unfold askE; rw [if_neg h1, if_pos h2]
      rw [hE, if_neg (by decide), if_neg (by decide)]
      refine (ask_full w b m S node kind h (by omega) (by omega) (by simp; omega) h2).mono ?_
      rintro e w' ⟨rfl, hb⟩
      exact ⟨rfl, h.below hb, hS.below h.mlt hb, Keeps.of_below hb⟩
    · have hE : askE S node kind = 0 := by unfold askE; rw [if_neg h1, if_neg h2]
      rw [hE, if_pos rfl, if_pos rfl]
      exact ask_okS w b m S node kind h hS (by omega) (by omega) (by simp; omega) (by omega) (by omega) hO.last hO.asked.1 hO.asked.2
def expE (S : BookD) (id : Int) : Int := if (aGet id S.L).isSome then 0 else 4
def expA (S : BookD) (id : Int) : AskD := (aGet id S.L).getD ⟨0, 0, 0⟩
def expS (S : BookD) (id : Int) : BookD := if (aGet id S.L).isSome then { S with L := aDel id S.L, exp := S.exp + 1 } else S
theorem askS_exp (S : BookD) (node kind : Int) : (askS S node kind).exp = S.exp := by unfold askS; split <;> rfl
theorem expire_all (w : World) (b m : Nat) (S : BookD) (id : Int) (h : BookAt w b m S) (hS : StampM w m) (hO : 0 ≤ S.exp ∧ S.exp < 4611686018427387904) :
    Calls Try.prog 38 #[.pointer (some ⟨b, 0, none⟩), .int .i64 id] w fun e w' => e = .returned (.tuple #[askV (expA S id), .int .i64 (expE S id)]) ∧ BookAt w' b m (expS S id) ∧ StampM w' m ∧ Keeps (Kp b m) w w' := by
  unfold expE expA expS
  cases ha : aGet id S.L with
  | none =>
    refine (expire_none w b m S id h ha).mono ?_
    rintro e w' ⟨rfl, hb⟩
    exact ⟨rfl, h.below hb, hS.below h.mlt hb, Keeps.of_below hb⟩
  | some a =>
    refine (expire_okS w b m S id a h hS ha hO.1 hO.2).mono ?_
    rintro e w' ⟨rfl, h1, h2, h3⟩
    exact ⟨rfl, h1, h2, h3⟩
def ansE (S : BookD) (node id kind : Int) : Int := match aGet id S.L with | some a => if a.node = node ∧ replyOf a.kind = kind then 0 else 4 | none => 4
def ansA (S : BookD) (node id kind : Int) : AskD := if ansE S node id kind = 0 then (aGet id S.L).getD ⟨0, 0, 0⟩ else ⟨0, 0, 0⟩
def ansS (S : BookD) (node id kind : Int) : BookD := if ansE S node id kind = 0 then { S with L := aDel id S.L, ans := S.ans + 1 } else S
def getE (S : BookD) (id : Int) : Int := if (aGet id S.L).isSome then 0 else 4
theorem get_all (w : World) (b m : Nat) (S : BookD) (id : Int) (h : BookAt w b m S) : Calls Try.prog 53 #[.pointer (some ⟨b, 0, none⟩), .int .i64 id] w fun e w' => e = .returned (.tuple #[askV (expA S id), .int .i64 (getE S id)]) ∧ Below w.heap.size w w' := by
  unfold expA getE
  cases ha : aGet id S.L with
  | none => exact get_none w b m S id h ha
  | some a => exact get_found w b m S id a h ha
theorem answer_all (w : World) (b m : Nat) (S : BookD) (node id kind : Int) (h : BookAt w b m S) (hS : StampM w m) (hO : AOK S) :
    Calls Try.prog 41 #[.pointer (some ⟨b, 0, none⟩), .int .i64 node, .int .i64 id, .int .i64 kind] w fun e w' => e = .returned (.tuple #[askV (ansA S node id kind), .int .i64 (ansE S node id kind)]) ∧ BookAt w' b m (ansS S node id kind) ∧ StampM w' m ∧ Keeps (Kp b m) w w' := by
  have no : ∀ {Q : Ending → World → Prop}, ansE S node id kind = 4 → Calls Try.prog 41 #[.pointer (some ⟨b, 0, none⟩), .int .i64 node, .int .i64 id, .int .i64 kind] w (fun e w' => e = .returned (.tuple #[askV ⟨0, 0, 0⟩, .int .i64 4]) ∧ Below w.heap.size w w') →
      Calls Try.prog 41 #[.pointer (some ⟨b, 0, none⟩), .int .i64 node, .int .i64 id, .int .i64 kind] w fun e w' => e = .returned (.tuple #[askV (ansA S node id kind), .int .i64 (ansE S node id kind)]) ∧ BookAt w' b m (ansS S node id kind) ∧ StampM w' m ∧ Keeps (Kp b m) w w' := by
    intro Q hE hc
    unfold ansA ansS
    rw [hE, if_neg (by decide), if_neg (by decide)]
    refine hc.mono ?_
    rintro e w' ⟨rfl, hb⟩
    exact ⟨rfl, h.below hb, hS.below h.mlt hb, Keeps.of_below hb⟩
  cases ha : aGet id S.L with
  | none => exact no (Q := fun _ _ => True) (by unfold ansE; rw [ha]) (answer_none w b m S node id kind h ha)
  | some a =>
    by_cases h1 : a.node = node
    · by_cases h2 : replyOf a.kind = kind
      · have hE : ansE S node id kind = 0 := by unfold ansE; rw [ha]; exact if_pos ⟨h1, h2⟩
        unfold ansA ansS
        rw [hE, if_pos rfl, if_pos rfl, ha]
        exact answer_okS w b m S node id kind a h hS ha h1 h2 hO.ans.1 hO.ans.2
      · exact no (Q := fun _ _ => True) (by unfold ansE; rw [ha]; exact if_neg (fun hh => h2 hh.2)) (answer_kind w b m S node id kind a h ha (by simp [h1]) (by simp [h2]))
    · exact no (Q := fun _ _ => True) (by unfold ansE; rw [ha]; exact if_neg (fun hh => h1 hh.1)) (answer_node w b m S node id kind a h ha (by simp [h1]))
end Go.Proofs.Ytagpclgappcnbaa.Ak
namespace Go.Proofs.Ytagpclgappcnbaa
open Go.RowKit

noncomputable def tookO (M : PM) (id : Int) : Me.MeanD × Int := Me.obsR M.cfg.r M.wait (IntKind.i64.wrap (M.now - (aGet id M.asked).getD 0)) M.now
noncomputable def tookM (M : PM) (id : Int) : PM := { M with wait := if (tookO M id).2 = 0 then (tookO M id).1 else M.wait, asked := aDel id M.asked }
theorem run_look61 {w : World} {m : Nat} {L : List (Int × Int)} (h : MapI w m Al.intV L) (id : Int) : (Instr.lookup 61 (.map (some m)) (.int .i64 id) false).run Try.prog w = .ok (.int .i64 ((aGet id L).getD 0)) w := by
  have := run_lookup1_int (P := Try.prog) (t := 61) (kt := 2) (et := 2) Try.underlying61 Try.underlying2 (z := Al.intV 0) (fun w => by kernel_rfl) h id
  rw [this]
  cases aGet id L <;> rfl
/-- the wait of a book is another -/
theorem PeerAt.setWait {w : World} {F : Nat → Prop} {b : Nat} {p : PD} {M : PM} (h : PeerAt w F b p M) (m : Me.MeanD) : PeerAt ((w.setCell ⟨b, 14, none⟩ (.int .i64 m.value)).setCell ⟨b, 15, none⟩ (.int .i64 m.at_)) F b p { M with wait := m } := by
  have h1 : PeerAt (w.setCell ⟨b, 14, none⟩ (.int .i64 m.value)) F b p { M with wait := ⟨m.value, M.wait.at_⟩ } := h.setBox rfl rfl rfl rfl rfl rfl
  exact h1.setBox rfl rfl rfl rfl rfl rfl
theorem PeerAt.delAsked {w : World} {F : Nat → Prop} {b : Nat} {p : PD} {M : PM} (h : PeerAt w F b p M) {L : List (Int × Int)} {o : Obj} (hm : MapI (putObj w p.qm o) p.qm Al.intV L) (hst : Ak.StampM (putObj w p.qm o) p.qm) : PeerAt (putObj w p.qm o) F b p { M with asked := L } := by
  obtain ⟨n1, n2, n3, n4, n5, n6, n7, n8, n9⟩ := h.bne
  have q : ∀ n, n ≠ p.qm → obj (putObj w p.qm o) n = obj w n := fun n hn => obj_putObj_ne _ _ _ _ hn
  have hz : w.heap.size ≤ (putObj w p.qm o).heap.size := by rw [size_putObj]; exact Nat.le_refl _
  exact ⟨(q _ n4).trans h.box, (q _ n7).trans h.inn, ⟨(q _ n9).trans h.asks.cells, h.asks.map.of_heap (q _ h.mq)⟩, h.stamp.of_obj (q _ h.mq), h.heap.of_obj hz fun n hn hf => q n (fun e => h.fq (by rw [← e]; exact hf)),
    h.l.of_block hz fun a ea => q _ (h.lf a ea).2.2.2.2.2, h.seats.of_block hz fun a ea => q _ (h.sf a ea).2.2.2.2.2, hm, h.lf, h.sf, h.fb, h.fi, h.fa, h.fm, h.fq, h.mq, hst⟩
set_option maxRecDepth 100000 in
set_option maxHeartbeats 4000000 in
theorem took_any (w : World) (F : Nat → Prop) (b : Nat) (p : PD) (M : PM) (id : Int) (h : PeerAt w F b p M) : Calls Try.prog 43 #[.pointer (some ⟨b, 0, none⟩), .int .i64 id] w fun e w' => e = .returned (.int .i64 (tookO M id).2) ∧ PeerAt w' F b p (tookM M id) ∧ Keeps (fun n => n = b ∨ n = p.qm) w w' := by
  have H := Lib.hid h
  have hbl := h.lt
  have hql := h.asked.lt
  obtain ⟨es, clk, hq, hr⟩ := h.asked
  have HR := Lib.hid hr
  have HST := Lib.hid (h.stq.of hq)
  have hl : ∀ W : World, obj W p.qm = some (.map es clk) → (Instr.lookup 61 (.map (some p.qm)) (.int .i64 id) false).run Try.prog W = .ok (.int .i64 ((aGet id M.asked).getD 0)) W := fun W hW => run_look61 ⟨es, clk, hW, hr⟩ id
  have HC := Lib.hid (fun W => Me.obs_any M.cfg.r M.wait (IntKind.i64.wrap (M.now - (aGet id M.asked).getD 0)) M.now W)
  have HM : Hid (tookM M id = { M with wait := if (tookO M id).2 = 0 then (tookO M id).1 else M.wait, asked := aDel id M.asked }) := Lib.hid rfl
  have HO : Hid (tookO M id = Me.obsR M.cfg.r M.wait (IntKind.i64.wrap (M.now - (aGet id M.asked).getD 0)) M.now) := Lib.hid rfl
  rw [← HO.out] at HC
  generalize tookM M id = M2 at *
  generalize tookO M id = o at *
  obtain ⟨⟨ov, oa⟩, oe⟩ := o
  generalize (aGet id M.asked).getD 0 = V at *
  unfold Me.ruleV Me.meanV at HC
  simp only at HC HM
  obtain ⟨c2, c3, c4, c5, c6, c14, c15⟩ := h.rule
  obtain ⟨-, -, c13, -, c17, -, -⟩ := h.cells
  clear h hr
  go_enter Try.func43, Try.ntmps43
  go_wp2_with fail
  go_region_held3 (fun W => (W.cell? ⟨b, 2, none⟩ = some (.int .i64 M.cfg.r.first) ∧ W.cell? ⟨b, 3, none⟩ = some (.int .i64 M.cfg.r.min) ∧ W.cell? ⟨b, 4, none⟩ = some (.int .i64 M.cfg.r.max) ∧ W.cell? ⟨b, 5, none⟩ = some (.int .i64 M.cfg.r.half) ∧ W.cell? ⟨b, 6, none⟩ = some (.int .i64 M.cfg.r.quart) ∧ W.cell? ⟨b, 14, none⟩ = some (.int .i64 M.wait.value) ∧ W.cell? ⟨b, 15, none⟩ = some (.int .i64 M.wait.at_)) ∧ W.cell? ⟨b, 13, none⟩ = some (.int .i64 M.now) ∧ W.cell? ⟨b, 17, none⟩ = some (.map (some p.qm)) ∧ obj W p.qm = some (.map es clk))
    (first | exact ⟨⟨c2, c3, c4, c5, c6, c14, c15⟩, c13, c17, hq⟩ | assumption | ((try dsimp only); (repeat' apply And.intro) <;> (simp only [go_sem, *]; done)) | ((try dsimp only); simp [go_sem, *]; done))
    (first
      | (go_at_call 70; (with_reducible refine (HC.out _).mono ?_); rintro e w3 ⟨rfl, b3⟩; have g : Below w.heap.size w w3 := (by first | exact (Below.refl _ _).drew.trans b3 | exact ((Below.refl _ _).drew.alloc (Nat.le_refl _) _).trans (b3.mono (by simp))); have s3 := (H.out.below g).rule; have s4 := (H.out.below g).cells; have s5 := (obj_below g hql).trans hq; have s6 := g.size; have s7 : b < w3.heap.size := (by omega); have s8 : p.qm < w3.heap.size := (by omega); have s9 : ∀ u v, obj ((w3.setCell ⟨w.heap.size, 0, none⟩ u).setCell ⟨w.heap.size, 1, none⟩ v) p.qm = some (.map es clk) := (fun u v => (obj_setCell_ne _ ⟨w.heap.size, 1, none⟩ _ _ (by dsimp only; omega)).trans ((obj_setCell_ne _ ⟨w.heap.size, 0, none⟩ _ _ (by dsimp only; omega)).trans s5)); try (have k0 : obj w3 w.heap.size = some (.cells #[.int .i64 0, .int .i64 0] 70 (0, 0)) := (obj_below b3 (by simp)).trans (obj_alloc_at _ _ _ (by simp)); have k1 : w3.cell? ⟨w.heap.size, 0, none⟩ = some (.int .i64 0) := cell_at k0 0; have k2 : w3.cell? ⟨w.heap.size, 1, none⟩ = some (.int .i64 0) := cell_at k0 1; have k3 : ∀ i, w3.frozen? ⟨w.heap.size, i, none⟩ = false := frozen_at k0; have k4 : w.heap.size < w3.heap.size := lt_of_obj k0)))
  all_goals (first
    | (have g2 : Below w.heap.size w ((w3.setCell ⟨w.heap.size, 0, none⟩ (.int .i64 ov)).setCell ⟨w.heap.size, 1, none⟩ (.int .i64 oa)) := (g.setCell (Nat.le_refl _) _).setCell (Nat.le_refl _) _
       have ox : Hid (obj ((w3.setCell ⟨w.heap.size, 0, none⟩ (.int .i64 ov)).setCell ⟨w.heap.size, 1, none⟩ (.int .i64 oa)) w.heap.size = some (.cells #[.int .i64 ov, .int .i64 oa] 70 (0, 0))) := Lib.hid (obj_setCell_at (.int .i64 oa) (i := 1) (obj_setCell_at (.int .i64 ov) (i := 0) k0))
       have hbx : b ≠ w.heap.size := by omega
       have H3 := Lib.hid (H.out.below g2)
       have q3 := Lib.hid ((obj_below g2 hql).trans hq)
       have G2 := Lib.hid g2
       clear k0 k1 k2 k3 k4 s3 s4 s5 s6 s7 s8 s9 g g2 b3 c2 c3 c4 c5 c6 c14 c15 c13 c17
       generalize (w3.setCell ⟨w.heap.size, 0, none⟩ (.int .i64 ov)).setCell ⟨w.heap.size, 1, none⟩ (.int .i64 oa) = W at *)
    | (have g2 : Below w.heap.size w (w3.alloc (.cells #[.int .i64 ov, .int .i64 oa] 70)) := g.alloc g.size _
       have ox : Hid (obj (w3.alloc (.cells #[.int .i64 ov, .int .i64 oa] 70)) w3.heap.size = some (.cells #[.int .i64 ov, .int .i64 oa] 70 (0, 0))) := Lib.hid (obj_alloc_at _ _ _ rfl)
       have hbx : b ≠ w3.heap.size := by omega
       have H3 := Lib.hid (H.out.below g2)
       have q3 := Lib.hid ((obj_below g2 hql).trans hq)
       have G2 := Lib.hid g2
       clear s3 s4 s5 s6 s7 s8 s9 g g2 b3 c2 c3 c4 c5 c6 c14 c15 c13 c17
       generalize w3.alloc (.cells #[.int .i64 ov, .int .i64 oa] 70) = W at *))
  all_goals (
    clear hl HC HO
    have x0 := cell_at ox.out 0
    have x1 := cell_at ox.out 1
    simp at x0 x1
    have lb := H3.out.lt
    have lx := lt_of_obj ox.out
    have yf := frozen_at H3.out.box
    obtain ⟨-, -, -, -, -, c14, c15⟩ := H3.out.rule
    obtain ⟨-, -, -, -, c17, -, -⟩ := H3.out.cells
    obtain ⟨-, -, -, n4, -, -, -, -, -⟩ := H3.out.bne
    obtain ⟨es', hd, hr', hs'⟩ := Ak.run_delete_is (P := Try.prog) (enc := Al.intV) (clk := clk) Try.underlying61 Try.underlying2 0 2 HR.out HST.out p.qm id
    have HR2 := Lib.hid hr'
    have HS2 := Lib.hid hs'
    clear hr' hs'
    by_cases hoe : oe = 0
    · subst hoe
      have H4 : Hid (PeerAt ((W.setCell ⟨b, 14, none⟩ (.int .i64 ov)).setCell ⟨b, 15, none⟩ (.int .i64 oa)) F b p { M with wait := ⟨ov, oa⟩ }) := Lib.hid (H3.out.setWait ⟨ov, oa⟩)
      have q4 : obj ((W.setCell ⟨b, 14, none⟩ (.int .i64 ov)).setCell ⟨b, 15, none⟩ (.int .i64 oa)) p.qm = some (.map es clk) := (obj_setCell_ne _ ⟨b, 15, none⟩ _ _ n4.symm).trans ((obj_setCell_ne _ ⟨b, 14, none⟩ _ _ n4.symm).trans q3.out)
      have hd4 := hd _ q4
      have FIN : Hid (PeerAt (putObj ((W.setCell ⟨b, 14, none⟩ (.int .i64 ov)).setCell ⟨b, 15, none⟩ (.int .i64 oa)) p.qm (.map es' clk)) F b p M2) := Lib.hid (by rw [HM.out, if_pos rfl]; exact H4.out.delAsked ⟨es', clk, obj_putObj_at _ _ _ (lt_of_obj q4), HR2.out⟩ ⟨es', clk, obj_putObj_at _ _ _ (lt_of_obj q4), HS2.out⟩)
      have KF : Hid (Keeps (fun n => n = b ∨ n = p.qm) w (putObj ((W.setCell ⟨b, 14, none⟩ (.int .i64 ov)).setCell ⟨b, 15, none⟩ (.int .i64 oa)) p.qm (.map es' clk))) := Lib.hid ((((Keeps.of_below (F := fun n => n = b ∨ n = p.qm) G2.out).setCell (a := ⟨b, 14, none⟩) (.inl (.inl rfl)) _).setCell (a := ⟨b, 15, none⟩) (.inl (.inl rfl)) _).trans ((keeps_put _ _ _).mono fun n hn => .inr hn))
      clear hd q4
      go_wp2_with fail
      go_ret
      exact ⟨rfl, FIN.out, KF.out⟩
    · have hd4 := hd _ q3.out
      have FIN : Hid (PeerAt (putObj W p.qm (.map es' clk)) F b p M2) := Lib.hid (by rw [HM.out, if_neg hoe]; exact H3.out.delAsked ⟨es', clk, obj_putObj_at _ _ _ (lt_of_obj q3.out), HR2.out⟩ ⟨es', clk, obj_putObj_at _ _ _ (lt_of_obj q3.out), HS2.out⟩)
      have KF : Hid (Keeps (fun n => n = b ∨ n = p.qm) w (putObj W p.qm (.map es' clk))) := Lib.hid ((Keeps.of_below (F := fun n => n = b ∨ n = p.qm) G2.out).trans ((keeps_put _ _ _).mono fun n hn => .inr hn))
      clear hd
      go_wp2_with fail
      go_ret
      exact ⟨rfl, FIN.out, KF.out⟩)
end Go.Proofs.Ytagpclgappcnbaa
namespace Go.Proofs.Ytagpclgappcnbaa
open Go.RowKit

theorem SlIn.of_some {α : Type} {w W : World} {oa : Option Addr} {n cap k : Nat} {enc : α → List Value} {xs : List α} (h : SlIn w (.slice oa n cap) k enc xs) (hz : w.heap.size ≤ W.heap.size) (hk : ∀ a, oa = some a → a.block < w.heap.size → obj W a.block = obj w a.block) : SlIn W (.slice oa n cap) k enc xs := by
  obtain ⟨oa', cap', e, h2, h3, h4⟩ := h
  simp only [Value.slice.injEq] at e
  obtain ⟨rfl, rfl, rfl⟩ := e
  refine ⟨oa, cap, rfl, h2, h3, fun hl => ?_⟩
  obtain ⟨b, off, e, hb, hr⟩ := h4 hl
  exact ⟨b, off, e, Nat.lt_of_lt_of_le hb hz, hr.of_obj (hk _ e hb)⟩
theorem SlIn.blk {α : Type} {w : World} {oa : Option Addr} {n cap k : Nat} {enc : α → List Value} {xs : List α} (h : SlIn w (.slice oa n cap) k enc xs) (h0 : 0 < xs.length) {a : Addr} (e : oa = some a) : a.block < w.heap.size := by
  obtain ⟨oa', cap', e1, h2, h3, h4⟩ := h
  simp only [Value.slice.injEq] at e1
  obtain ⟨rfl, rfl, rfl⟩ := e1
  obtain ⟨b, off, e2, hb, hr⟩ := h4 h0
  rw [e] at e2
  cases e2
  exact hb
theorem PeerAt.setHeap {w w' : World} {F F' : Nat → Prop} {b : Nat} {p : PD} {M : PM} (h : PeerAt w F b p M) {W : List Al.Al} (h1 : Al.Hp w' F' p.hb W) (hg : Al.Grows w F F') (hk : Keeps F w w') (hl0 : 0 < M.l.length) (hs0 : 0 < M.seats.length) : PeerAt w' F' b p { M with W := W } := by
  have hlt := fun a e => h.l.blk hl0 (a := a) e
  have hst := fun a e => h.seats.blk hs0 (a := a) e
  have q : ∀ n, n < w.heap.size → ¬ F n → obj w' n = obj w n := fun n hn hf => hk.block n hn hf
  have nf : ∀ n, n < w.heap.size → ¬ F n → ¬ F' n := fun n hn hf hh => by
    rcases hg n hh with e | e
    · exact hf e
    · omega
  have lb := lt_of_obj h.box
  have li := lt_of_obj h.inn
  have lq := h.asked.lt
  exact ⟨(q _ lb h.fb).trans h.box, (q _ li h.fi).trans h.inn, ⟨(q _ h.asks.lt h.fa).trans h.asks.cells, h.asks.map.of_heap (q _ h.asks.mlt h.fm)⟩, h.stamp.of_obj (q _ h.asks.mlt h.fm), h1,
    SlIn.of_some h.l hk.size fun a e hb => q _ hb (h.lf a e).1, SlIn.of_some h.seats hk.size fun a e hb => q _ hb (h.sf a e).1, h.asked.of_heap (q _ lq h.fq),
    fun a e => ⟨nf _ (hlt a e) (h.lf a e).1, (h.lf a e).2⟩, fun a e => ⟨nf _ (hst a e) (h.sf a e).1, (h.sf a e).2⟩, nf _ lb h.fb, nf _ li h.fi, nf _ h.asks.lt h.fa, nf _ h.asks.mlt h.fm, nf _ lq h.fq, h.mq, h.stq.of_obj (q _ lq h.fq)⟩
theorem PeerAt.setAsks {w w' : World} {F : Nat → Prop} {b : Nat} {p : PD} {M : PM} (h : PeerAt w F b p M) {A : Ak.BookD} (h1 : Ak.BookAt w' p.ab p.am A) (h2 : Ak.StampM w' p.am) (hk : Keeps (Ak.Kp p.ab p.am) w w') : PeerAt w' F b p { M with A := A } := by
  obtain ⟨n1, n2, n3, n4, n5, n6, n7, n8, n9⟩ := h.bne
  have q : ∀ n, n < w.heap.size → n ≠ p.ab → n ≠ p.am → obj w' n = obj w n := fun n hn ha hm => hk.block n hn (fun hh => by rcases hh with e | e; exact ha e; exact hm e)
  refine ⟨(q _ (lt_of_obj h.box) n2 n3).trans h.box, (q _ (lt_of_obj h.inn) n5 n6).trans h.inn, h1, h2,
    h.heap.of_obj hk.size fun n hn hf => q n hn (fun e => h.fa (by rw [← e]; exact hf)) (fun e => h.fm (by rw [← e]; exact hf)), ?_, ?_,
    h.asked.of_heap (q _ h.asked.lt n9.symm h.mq.symm), h.lf, h.sf, h.fb, h.fi, h.fa, h.fm, h.fq, h.mq, h.stq.of_obj (q _ h.asked.lt n9.symm h.mq.symm)⟩
  · exact SlIn.of_some h.l hk.size fun a e hb => q _ hb (h.lf a e).2.2.2.1 (h.lf a e).2.2.2.2.1
  · exact SlIn.of_some h.seats hk.size fun a e hb => q _ hb (h.sf a e).2.2.2.1 (h.sf a e).2.2.2.2.1
theorem PeerAt.putAsked {w : World} {F : Nat → Prop} {b : Nat} {p : PD} {M : PM} (h : PeerAt w F b p M) {L : List (Int × Int)} {o : Obj} (hm : MapI (putObj w p.qm o) p.qm Al.intV L) (hst : Ak.StampM (putObj w p.qm o) p.qm) : PeerAt (putObj w p.qm o) F b p { M with asked := L } := h.delAsked hm hst

/-! ### Ask -/
structure POK (M : PM) : Prop where
  a : Ak.AOK M.A
  l : 0 < M.l.length
  s : 0 < M.seats.length
def askM0 (M : PM) (now : Int) : PM := { M with now := now }
noncomputable def askAt (M : PM) (now : Int) : Int := min (IntKind.i64.wrap (now + Me.tmoR M.cfg.r M.wait)) 4611686018427387903
/-- the book behind Ask, the number, whether it is benched, the error -/
noncomputable def askP (M : PM) (v kind now : Int) : PM × Int × Bool × Int :=
  if comesE M now ≠ 0 then (M, 0, false, comesE M now)
  else if v < 0 ∨ (M.l.length : Int) ≤ v then ({ M with now := now }, 0, false, 4)
  else if Ak.askE M.A v kind ≠ 0 then ({ M with now := now, A := Ak.askS M.A v kind }, 0, false, Ak.askE M.A v kind)
  else if Be.isB M.seats v now = true then ({ M with now := now, A := Ak.expS (Ak.askS M.A v kind) (Ak.askI M.A v kind) }, Ak.askI M.A v kind, true, Ak.expE (Ak.askS M.A v kind) (Ak.askI M.A v kind))
  else ({ M with now := now, A := Ak.askS M.A v kind, asked := aPut (Ak.askI M.A v kind) now M.asked, W := Al.pushW M.W (askAt M now) (Ak.askI M.A v kind) }, Ak.askI M.A v kind, false, Al.pushE M.W (askAt M now) (Ak.askI M.A v kind))
def AskR (w : World) (F : Nat → Prop) (b : Nat) (p : PD) (M : PM) (r : PM × Int × Bool × Int) (e : Ending) (w' : World) : Prop :=
  e = .returned (.tuple #[.int .i64 r.2.1, .bool r.2.2.1, .int .i64 r.2.2.2]) ∧ (∃ F', PeerAt w' F' b p r.1 ∧ Al.Grows w F F') ∧ Keeps (Own F b p) w w'
end Go.Proofs.Ytagpclgappcnbaa
namespace Go.Proofs.Ytagpclgappcnbaa
open Go.RowKit

theorem keepsOwn {w w' : World} {F G : Nat → Prop} {b : Nat} {p : PD} (h : Keeps G w w') (hg : ∀ n, G n → Own F b p n) : Keeps (Own F b p) w w' := h.mono hg
set_option maxRecDepth 100000 in
set_option maxHeartbeats 4000000 in
theorem ask_any (w : World) (F : Nat → Prop) (b : Nat) (p : PD) (M : PM) (v kind now : Int) (h : PeerAt w F b p M) (ho : POK M) : Calls Try.prog 13 #[.pointer (some ⟨b, 0, none⟩), .int .i64 v, .int .i64 kind, .int .i64 now] w (AskR w F b p M (askP M v kind now)) := by
  have HO := Lib.hid ho
  have HC := Lib.hid (comes_any w F b p M now h)
  have HR0 : Hid (comesE M now ≠ 0 → askP M v kind now = (M, 0, false, comesE M now)) := Lib.hid (fun h => by unfold askP; rw [if_pos h])
  have HR1 : Hid (comesE M now = 0 → (v < 0 ∨ (M.l.length : Int) ≤ v) → askP M v kind now = ({ M with now := now }, 0, false, 4)) := Lib.hid (fun h h1 => by unfold askP; rw [if_neg (fun hh => hh h), if_pos h1])
  have HR2 : Hid (comesE M now = 0 → ¬ (v < 0 ∨ (M.l.length : Int) ≤ v) → Ak.askE M.A v kind ≠ 0 → askP M v kind now = ({ M with now := now, A := Ak.askS M.A v kind }, 0, false, Ak.askE M.A v kind)) := Lib.hid (fun h h1 h2 => by unfold askP; rw [if_neg (fun hh => hh h), if_neg h1, if_pos h2])
  have HR3 : Hid (comesE M now = 0 → ¬ (v < 0 ∨ (M.l.length : Int) ≤ v) → Ak.askE M.A v kind = 0 → Be.isB M.seats v now = true → askP M v kind now = ({ M with now := now, A := Ak.expS (Ak.askS M.A v kind) (Ak.askI M.A v kind) }, Ak.askI M.A v kind, true, Ak.expE (Ak.askS M.A v kind) (Ak.askI M.A v kind))) := Lib.hid (fun h h1 h2 h3 => by unfold askP; rw [if_neg (fun hh => hh h), if_neg h1, if_neg (fun hh => hh h2), if_pos h3])
  have HR4 : Hid (comesE M now = 0 → ¬ (v < 0 ∨ (M.l.length : Int) ≤ v) → Ak.askE M.A v kind = 0 → Be.isB M.seats v now = false → askP M v kind now = ({ M with now := now, A := Ak.askS M.A v kind, asked := aPut (Ak.askI M.A v kind) now M.asked, W := Al.pushW M.W (askAt M now) (Ak.askI M.A v kind) }, Ak.askI M.A v kind, false, Al.pushE M.W (askAt M now) (Ak.askI M.A v kind))) := Lib.hid (fun h h1 h2 h3 => by unfold askP; rw [if_neg (fun hh => hh h), if_neg h1, if_neg (fun hh => hh h2), if_neg (by rw [h3]; decide)])
  generalize askP M v kind now = R at *
  have HLL : Hid (M.l.length ≤ p.lc ∧ p.lc ≤ maxLen) := Lib.hid (by obtain ⟨_, _, e, h1, h2, _⟩ := h.l; simp only [Value.slice.injEq] at e; obtain ⟨-, -, rfl⟩ := e; exact ⟨h1, h2⟩)
  clear h ho
  go_enter Try.func13, Try.ntmps13
  go_wp2_with fail
  refine HC.out.mono ?_
  rintro e w1 ⟨rfl, h1, k1⟩
  have K1 : Hid (Keeps (Own F b p) w w1) := Lib.hid (k1.mono fun n hn => .inr (.inl hn))
  have H1 := Lib.hid h1
  clear h1 k1 HC
  by_cases hE : comesE M now = 0
  case neg =>
    have HR := Lib.hid (HR0.out hE)
    have HM1 : Hid (comesM M now = M) := Lib.hid (by unfold comesM; rw [if_neg hE])
    generalize comesE M now = E at *
    go_wp2_with fail
    refine bodyPost_ret (v := .tuple #[.int .i64 0, .bool false, .int .i64 E]) (by simp [results, Try.results13, go_sem]) rfl ⟨by rw [HR.out], ⟨F, by rw [HR.out, ← HM1.out]; exact H1.out, fun n hn => .inl hn⟩, K1.out⟩
  have HM1 : Hid (comesM M now = { M with now := now }) := Lib.hid (by unfold comesM; rw [if_pos hE])
  have HE := Lib.hid hE
  rw [HM1.out] at H1
  rw [hE]
  clear hE HM1
  obtain ⟨c0, c12, c13, c16, c17, d0, d1⟩ := H1.out.cells
  have hbl := H1.out.lt
  simp only at c12 c13 c16
  by_cases hv : v < 0 ∨ (M.l.length : Int) ≤ v
  case pos =>
    have HR := Lib.hid (HR1.out HE.out hv)
    by_cases hv0 : v < 0
    · clear hv
      go_wp2_with fail
      refine bodyPost_ret (v := .tuple #[.int .i64 0, .bool false, .int .i64 4]) (by simp [results, Try.results13, go_sem]) rfl ⟨by rw [HR.out], ⟨F, by rw [HR.out]; exact H1.out, fun n hn => .inl hn⟩, K1.out⟩
    · have hv1 : (M.l.length : Int) ≤ v := by omega
      clear hv
      go_wp2_with fail
      refine bodyPost_ret (v := .tuple #[.int .i64 0, .bool false, .int .i64 4]) (by simp [results, Try.results13, go_sem]) rfl ⟨by rw [HR.out], ⟨F, by rw [HR.out]; exact H1.out, fun n hn => .inl hn⟩, K1.out⟩
  have hv0 : ¬ v < 0 := by omega
  have hv1 : ¬ (M.l.length : Int) ≤ v := by omega
  have HV := Lib.hid hv
  clear hv
  have HA := Lib.hid (Ak.ask_all w1 p.ab p.am M.A v kind H1.out.asks H1.out.stamp HO.out.a)
  go_wp2_with fail
  refine HA.out.mono ?_
  rintro e w2 ⟨rfl, a1, a2, a3⟩
  have H2 := Lib.hid (H1.out.setAsks a1 a2 a3)
  have K2 : Hid (Keeps (Own F b p) w w2) := Lib.hid (K1.out.trans (a3.mono fun n hn => by rcases hn with e | e; exact .inr (.inr (.inr (.inl e))); exact .inr (.inr (.inr (.inr (.inl e))))))
  clear a1 a2 a3 HA c0 c12 c13 c16 c17 d0 d1 hbl
  by_cases hAE : Ak.askE M.A v kind = 0
  case neg =>
    have HR := Lib.hid (HR2.out HE.out HV.out hAE)
    have HI0 : Hid (Ak.askI M.A v kind = 0) := Lib.hid (by unfold Ak.askI; rw [if_neg hAE])
    generalize Ak.askE M.A v kind = E at *
    go_wp2_with fail
    refine bodyPost_ret (v := .tuple #[.int .i64 0, .bool false, .int .i64 E]) (by simp [results, Try.results13, go_sem]) rfl ⟨by rw [HR.out], ⟨F, by rw [HR.out]; exact H2.out, fun n hn => .inl hn⟩, K2.out⟩
  have HAE := Lib.hid hAE
  rw [hAE]
  clear hAE
  obtain ⟨c0, c12, c13, c16, c17, d0, d1⟩ := H2.out.cells
  simp only at c12 c13 c16
  have HIB := Lib.hid (Be.is_any w2 (.slice p.sa M.seats.length p.sc) M.seats v now H2.out.seats)
  go_wp2_with fail
  refine HIB.out.mono ?_
  rintro e w3 ⟨rfl, rfl⟩
  clear HIB
  cases hIs : Be.isB M.seats v now with
  | true =>
    have HR := Lib.hid (HR3.out HE.out HV.out HAE.out hIs)
    have HX := Lib.hid (Ak.expire_all w2 p.ab p.am (Ak.askS M.A v kind) (Ak.askI M.A v kind) H2.out.asks H2.out.stamp (by rw [Ak.askS_exp]; exact HO.out.a.exp))
    generalize Ak.expS (Ak.askS M.A v kind) (Ak.askI M.A v kind) = A2 at *
    generalize Ak.expE (Ak.askS M.A v kind) (Ak.askI M.A v kind) = E2 at *
    generalize Ak.expA (Ak.askS M.A v kind) (Ak.askI M.A v kind) = a2 at *
    generalize Ak.askI M.A v kind = id at *
    clear HR0 HR1 HR2 HR3 HR4 hIs
    go_wp2_with fail
    refine HX.out.mono ?_
    rintro e w4 ⟨rfl, a1, a2, a3⟩
    have H4 := Lib.hid (H2.out.setAsks a1 a2 a3)
    have K4 : Hid (Keeps (Own F b p) w w4) := Lib.hid (K2.out.trans (a3.mono fun n hn => by rcases hn with e | e; exact .inr (.inr (.inr (.inl e))); exact .inr (.inr (.inr (.inr (.inl e))))))
    clear a1 a2 a3 HX c0 c12 c13 c16 c17 d0 d1
    go_wp2_with fail
    refine bodyPost_ret (v := .tuple #[.int .i64 id, .bool true, .int .i64 E2]) (by simp [results, Try.results13, go_sem]) rfl ⟨by rw [HR.out], ⟨F, by rw [HR.out]; exact H4.out, fun n hn => .inl hn⟩, K4.out⟩
  | false =>
  have HR := Lib.hid (HR4.out HE.out HV.out HAE.out hIs)
  have HAT : Hid (askAt M now = min (IntKind.i64.wrap (now + Me.tmoR M.cfg.r M.wait)) 4611686018427387903) := Lib.hid rfl
  have HT := Lib.hid (fun W => Me.tmo_any M.cfg.r M.wait W)
  generalize askAt M now = at' at *
  generalize Me.tmoR M.cfg.r M.wait = T at *
  generalize Ak.askI M.A v kind = id at *
  clear HR0 HR1 HR2 HR3 HR4 hIs
  obtain ⟨es, clk, hq, hr⟩ := H2.out.asked
  obtain ⟨es', clk', hu, hr', hs'⟩ := Ak.run_mapUpdate_is (P := Try.prog) (enc := Al.intV) (clk := clk) Try.underlying61 Try.underlying2 hr (H2.out.stq.of hq) p.qm id now
  have hu4 := hu w2 hq
  have HR2 := Lib.hid hr'
  simp only [Al.intV] at hu4
  have hql := lt_of_obj hq
  have H4 := Lib.hid (H2.out.putAsked (L := aPut id now M.asked) (o := .map es' clk') ⟨es', clk', obj_putObj_at _ _ _ hql, HR2.out⟩ ⟨es', clk', obj_putObj_at _ _ _ hql, hs'⟩)
  have K4 : Hid (Keeps (Own F b p) w (putObj w2 p.qm (.map es' clk'))) := Lib.hid (K2.out.trans ((keeps_put _ _ _).mono fun n hn => .inr (.inr (.inr (.inr (.inr hn))))))
  clear hr hr' hu hs'
  go_wp2_with fail
  clear hu4 hq hql c0 c12 c13 c16 c17 d0 d1
  generalize putObj w2 p.qm (.map es' clk') = w4 at *
  obtain ⟨c0, -, -, -, -, -, d1⟩ := H4.out.cells
  obtain ⟨c2, c3, c4, c5, c6, c14, c15⟩ := H4.out.rule
  simp only at c2 c3 c4 c5 c6 c14 c15
  unfold Me.ruleV Me.meanV at HT
  go_region_held3 (fun W => (W.cell? ⟨b, 2, none⟩ = some (.int .i64 M.cfg.r.first) ∧ W.cell? ⟨b, 3, none⟩ = some (.int .i64 M.cfg.r.min) ∧ W.cell? ⟨b, 4, none⟩ = some (.int .i64 M.cfg.r.max) ∧ W.cell? ⟨b, 5, none⟩ = some (.int .i64 M.cfg.r.half) ∧ W.cell? ⟨b, 6, none⟩ = some (.int .i64 M.cfg.r.quart) ∧ W.cell? ⟨b, 14, none⟩ = some (.int .i64 M.wait.value) ∧ W.cell? ⟨b, 15, none⟩ = some (.int .i64 M.wait.at_)) ∧ W.cell? ⟨b, 0, none⟩ = some (.pointer (some ⟨p.ib, 0, none⟩)) ∧ W.cell? ⟨p.ib, 1, none⟩ = some (.pointer (some ⟨p.hb, 0, none⟩)))
    (first | exact ⟨⟨c2, c3, c4, c5, c6, c14, c15⟩, c0, d1⟩ | assumption)
    (first
      | (go_at_call 40; (with_reducible refine (HT.out _).mono ?_); rintro e w5 ⟨rfl, b5⟩; have H5 := Lib.hid (H4.out.below ((Below.refl _ w4).drew.trans b5)); have G5 : Hid (Below w4.heap.size w4 w5) := Lib.hid ((Below.refl _ w4).drew.trans b5); have s5 := And.intro H5.out.rule (And.intro H5.out.cells.1 H5.out.cells.2.2.2.2.2.2); clear b5)
      | (go_at_call 39; (with_reducible refine (Al.push_hp w5 F p.hb M.W _ id H5.out.heap).mono ?_); rintro e w6 ⟨rfl, ⟨F6, hp6, gr6⟩, k6⟩; have H6 := Lib.hid (H5.out.setHeap hp6 gr6 k6 HO.out.l HO.out.s); have GR6 := Lib.hid gr6; have K6 := Lib.hid k6; have s6 := And.intro H6.out.rule (And.intro H6.out.cells.1 H6.out.cells.2.2.2.2.2.2); clear hp6 gr6 k6))
  have e9 := HAT.out
  subst e9
  have KF : Hid (Keeps (Own F b p) w w6) := Lib.hid ((K4.out.trans (Keeps.of_below G5.out)).trans (K6.out.mono fun n hn => .inl hn))
  have hz1 := K4.out.size
  have hz2 := G5.out.size
  go_wp2_with fail
  refine bodyPost_ret (v := .tuple #[.int .i64 id, .bool false, .int .i64 (Al.pushE M.W (min (IntKind.i64.wrap (now + T)) 4611686018427387903) id)]) (by simp [results, Try.results13, go_sem]) rfl ⟨by rw [HR.out], ⟨F6, by rw [HR.out]; exact H6.out, fun n hn => (GR6.out n hn).imp (fun h => h) (fun h => by omega)⟩, KF.out⟩
end Go.Proofs.Ytagpclgappcnbaa
namespace Go.Proofs.Ytagpclgappcnbaa
open Go.RowKit

set_option maxRecDepth 100000 in
set_option maxHeartbeats 2000000 in
theorem stat_any (w : World) (F : Nat → Prop) (b : Nat) (p : PD) (M : PM) (h : PeerAt w F b p M) : Calls Try.prog 22 #[.pointer (some ⟨b, 0, none⟩)] w fun e w' => e = .returned (.agg #[.int .i64 M.A.asked, .int .i64 M.A.ans, .int .i64 M.A.exp]) ∧ Below w.heap.size w w' := by
  have b1 : Below w.heap.size w (w.alloc (.cells #[.int .i64 0, .int .i64 0, .int .i64 0] 66)) := (Below.refl _ w).alloc (Nat.le_refl _) _
  have H := Lib.hid (h.below b1)
  have OR := Lib.hid (show obj (w.alloc (.cells #[.int .i64 0, .int .i64 0, .int .i64 0] 66)) w.heap.size = some (.cells #[.int .i64 0, .int .i64 0, .int .i64 0] 66 (0, 0)) from obj_alloc_at _ _ _ rfl)
  obtain ⟨c0, -, -, -, -, d0, -⟩ := h.cells
  have hbl := h.lt
  have hil := lt_of_obj h.inn
  have HC := Lib.hid (Ak.stat_any _ p.ab p.am M.A H.out.asks)
  have B1 := Lib.hid b1
  clear h b1
  go_enter Try.func22, Try.ntmps22
  go_wp2_with fail
  refine (none_no _ F b p M H.out).mono ?_
  rintro e w2 ⟨rfl, rfl⟩
  go_wp2_with fail
  refine HC.out.mono ?_
  rintro e w3 ⟨rfl, b3⟩
  have O3 := (obj_below b3 (lt_of_obj OR.out)).trans OR.out
  have x0 := cell_at O3 0
  have x1 := cell_at O3 1
  have x2 := cell_at O3 2
  simp at x0 x1 x2
  have yf := frozen_at O3
  have O4 := obj_setCell_at (.int .i64 M.A.exp) (i := 2) (obj_setCell_at (.int .i64 M.A.ans) (i := 1) (obj_setCell_at (.int .i64 M.A.asked) (i := 0) O3))
  have y0 := cell_at O4 0
  have y1 := cell_at O4 1
  have y2 := cell_at O4 2
  simp at y0 y1 y2
  have BE : Hid (Below w.heap.size w (((w3.setCell ⟨w.heap.size, 0, none⟩ (.int .i64 M.A.asked)).setCell ⟨w.heap.size, 1, none⟩ (.int .i64 M.A.ans)).setCell ⟨w.heap.size, 2, none⟩ (.int .i64 M.A.exp))) := Lib.hid ((((B1.out.trans (b3.mono B1.out.size)).setCell (Nat.le_refl _) _).setCell (Nat.le_refl _) _).setCell (Nat.le_refl _) _)
  clear O4 b3
  go_wp2_with fail
  refine bodyPost_ret (v := .agg #[.int .i64 M.A.asked, .int .i64 M.A.ans, .int .i64 M.A.exp]) (by simp [results, Try.results22, go_sem, y0, y1, y2]) rfl ⟨rfl, BE.out⟩
set_option maxRecDepth 100000 in
set_option maxHeartbeats 2000000 in
theorem get_any (w : World) (F : Nat → Prop) (b : Nat) (p : PD) (M : PM) (id : Int) (h : PeerAt w F b p M) : Calls Try.prog 23 #[.pointer (some ⟨b, 0, none⟩), .int .i64 id] w fun e w' => e = .returned (.tuple #[Ak.askV (Ak.expA M.A id), .int .i64 (Ak.getE M.A id)]) ∧ Below w.heap.size w w' := by
  have b1 : Below w.heap.size w (w.alloc (.cells #[.int .i64 0, .int .i64 0, .int .i64 0] 47)) := (Below.refl _ w).alloc (Nat.le_refl _) _
  have H := Lib.hid (h.below b1)
  have OR := Lib.hid (show obj (w.alloc (.cells #[.int .i64 0, .int .i64 0, .int .i64 0] 47)) w.heap.size = some (.cells #[.int .i64 0, .int .i64 0, .int .i64 0] 47 (0, 0)) from obj_alloc_at _ _ _ rfl)
  obtain ⟨c0, -, -, -, -, d0, -⟩ := h.cells
  have hbl := h.lt
  have hil := lt_of_obj h.inn
  have HC := Lib.hid (Ak.get_all _ p.ab p.am M.A id H.out.asks)
  generalize Ak.expA M.A id = a at *
  generalize Ak.getE M.A id = E at *
  obtain ⟨ai, an, ak⟩ := a
  unfold Ak.askV at *
  simp only at HC
  have B1 := Lib.hid b1
  clear h b1
  go_enter Try.func23, Try.ntmps23
  go_wp2_with fail
  refine (none_no _ F b p M H.out).mono ?_
  rintro e w2 ⟨rfl, rfl⟩
  go_wp2_with fail
  refine HC.out.mono ?_
  rintro e w3 ⟨rfl, b3⟩
  have O3 := (obj_below b3 (lt_of_obj OR.out)).trans OR.out
  have x0 := cell_at O3 0
  have x1 := cell_at O3 1
  have x2 := cell_at O3 2
  simp at x0 x1 x2
  have yf := frozen_at O3
  have O4 := obj_setCell_at (.int .i64 ak) (i := 2) (obj_setCell_at (.int .i64 an) (i := 1) (obj_setCell_at (.int .i64 ai) (i := 0) O3))
  have y0 := cell_at O4 0
  have y1 := cell_at O4 1
  have y2 := cell_at O4 2
  simp at y0 y1 y2
  have BE : Hid (Below w.heap.size w (((w3.setCell ⟨w.heap.size, 0, none⟩ (.int .i64 ai)).setCell ⟨w.heap.size, 1, none⟩ (.int .i64 an)).setCell ⟨w.heap.size, 2, none⟩ (.int .i64 ak))) := Lib.hid ((((B1.out.trans (b3.mono B1.out.size)).setCell (Nat.le_refl _) _).setCell (Nat.le_refl _) _).setCell (Nat.le_refl _) _)
  clear O4 b3
  go_wp2_with fail
  refine bodyPost_ret (v := .tuple #[.agg #[.int .i64 ai, .int .i64 an, .int .i64 ak], .int .i64 E]) (by simp [results, Try.results23, go_sem, y0, y1, y2]) rfl ⟨rfl, BE.out⟩
end Go.Proofs.Ytagpclgappcnbaa
namespace Go.Proofs.Ytagpclgappcnbaa
open Go.RowKit

theorem PeerAt.own_lt {w : World} {F : Nat → Prop} {b : Nat} {p : PD} {M : PM} (h : PeerAt w F b p M) {n : Nat} (ho : Own F b p n) : n < w.heap.size := by
  rcases ho with ho | rfl | rfl | rfl | rfl | rfl
  · exact h.heap.old _ ho
  · exact h.lt
  · exact lt_of_obj h.inn
  · exact h.asks.lt
  · exact h.asks.mlt
  · exact h.asked.lt
theorem PeerAt.setSeats {w : World} {F : Nat → Prop} {b : Nat} {p : PD} {M : PM} (h : PeerAt w F b p M) {oa : Option Addr} {cap : Nat} {s' : List Be.St} (hs : SlIn w (.slice oa s'.length cap) 3 Be.stL s') (ha : ∀ a, oa = some a → Apart F b p a.block) :
    PeerAt (w.setCell ⟨b, 16, none⟩ (.slice oa s'.length cap)) F b { p with sa := oa, sc := cap } { M with seats := s' } := by
  obtain ⟨n1, n2, n3, n4, -, -, -, -, -⟩ := h.bne
  have q : ∀ n, n ≠ b → obj (w.setCell ⟨b, 16, none⟩ (.slice oa s'.length cap)) n = obj w n := fun n hn => obj_setCell_ne _ ⟨b, 16, none⟩ _ _ hn
  have hz : w.heap.size ≤ (w.setCell ⟨b, 16, none⟩ (.slice oa s'.length cap)).heap.size := by simp
  exact ⟨obj_setCell_at (.slice oa s'.length cap) (i := 16) h.box, (q _ n1.symm).trans h.inn, ⟨(q _ n2.symm).trans h.asks.cells, h.asks.map.of_heap (q _ n3.symm)⟩, h.stamp.of_obj (q _ n3.symm), h.heap.of_obj hz fun n hn hf => q n (fun e => h.fb (by rw [← e]; exact hf)),
    h.l.of_block hz fun a ea => q _ (h.lf a ea).2.1, hs.of_block hz fun a ea => q _ (ha a ea).2.1, h.asked.of_heap (q _ n4.symm), h.lf, ha, h.fb, h.fi, h.fa, h.fm, h.fq, h.mq, h.stq.of_obj (q _ n4.symm)⟩
theorem PeerAt.apart_new {w : World} {F : Nat → Prop} {b : Nat} {p : PD} {M : PM} (h : PeerAt w F b p M) {n : Nat} (hn : w.heap.size ≤ n) : Apart F b p n := by
  have q : ∀ k, Own F b p k → n ≠ k := fun k hk e => by have := h.own_lt hk; omega
  exact ⟨fun hf => q n (.inl hf) rfl, q _ (.inr (.inl rfl)), q _ (.inr (.inr (.inl rfl))), q _ (.inr (.inr (.inr (.inl rfl)))), q _ (.inr (.inr (.inr (.inr (.inl rfl))))), q _ (.inr (.inr (.inr (.inr (.inr rfl)))))⟩
def repS (s : List Be.St) (v : Int) : List Be.St := s.set v.toNat ⟨0, 0, (s.getD v.toNat ⟨0, 0, 0⟩).u⟩
theorem repS_at {s : List Be.St} {i : Nat} (hi : i < s.length) : repS s i = s.set i ⟨0, 0, s[i].u⟩ := by unfold repS; simp [List.getElem?_eq_getElem hi]
theorem PeerAt.setFresh {w : World} {F : Nat → Prop} {b : Nat} {p : PD} {M : PM} (h : PeerAt w F b p M) {n : Nat} (hn : ¬ Own F b p n) (hl : ∀ a, p.la = some a → a.block ≠ n) (hs : ∀ a, p.sa = some a → a.block ≠ n) (i : Nat) (v : Value) : PeerAt (w.setCell ⟨n, i, none⟩ v) F b p M := by
  have q : ∀ k, Own F b p k → obj (w.setCell ⟨n, i, none⟩ v) k = obj w k := fun k hk => obj_setCell_ne _ ⟨n, i, none⟩ _ _ (fun e => hn (by have e' : k = n := e; rw [← e']; exact hk))
  have q2 : ∀ k, k ≠ n → obj (w.setCell ⟨n, i, none⟩ v) k = obj w k := fun k hk => obj_setCell_ne _ ⟨n, i, none⟩ _ _ hk
  have hz : w.heap.size ≤ (w.setCell ⟨n, i, none⟩ v).heap.size := by simp
  exact ⟨(q _ (.inr (.inl rfl))).trans h.box, (q _ (.inr (.inr (.inl rfl)))).trans h.inn, ⟨(q _ (.inr (.inr (.inr (.inl rfl))))).trans h.asks.cells, h.asks.map.of_heap (q _ (.inr (.inr (.inr (.inr (.inl rfl))))))⟩,
    h.stamp.of_obj (q _ (.inr (.inr (.inr (.inr (.inl rfl)))))), h.heap.of_obj hz fun k _ hf => q k (.inl hf), h.l.of_block hz fun a ea => q2 _ (hl a ea), h.seats.of_block hz fun a ea => q2 _ (hs a ea),
    h.asked.of_heap (q _ (.inr (.inr (.inr (.inr (.inr rfl)))))), h.lf, h.sf, h.fb, h.fi, h.fa, h.fm, h.fq, h.mq, h.stq.of_obj (q _ (.inr (.inr (.inr (.inr (.inr rfl))))))⟩
theorem PeerAt.setFresh3 {w : World} {F : Nat → Prop} {b : Nat} {p : PD} {M : PM} (h : PeerAt w F b p M) {n : Nat} (hn : ¬ Own F b p n) (hl : ∀ a, p.la = some a → a.block ≠ n) (hs : ∀ a, p.sa = some a → a.block ≠ n) (v0 v1 v2 : Value) : PeerAt (((w.setCell ⟨n, 0, none⟩ v0).setCell ⟨n, 1, none⟩ v1).setCell ⟨n, 2, none⟩ v2) F b p M :=
  ((h.setFresh hn hl hs 0 v0).setFresh hn hl hs 1 v1).setFresh hn hl hs 2 v2
theorem keeps_set3 {w w1 : World} {G : Nat → Prop} (h : Keeps G w w1) {n : Nat} (hn : w.heap.size ≤ n) (v0 v1 v2 : Value) : Keeps G w (((w1.setCell ⟨n, 0, none⟩ v0).setCell ⟨n, 1, none⟩ v1).setCell ⟨n, 2, none⟩ v2) :=
  ((h.setCell (a := ⟨n, 0, none⟩) (.inr hn) v0).setCell (a := ⟨n, 1, none⟩) (.inr hn) v1).setCell (a := ⟨n, 2, none⟩) (.inr hn) v2
/-- the book behind Got, the request, the error -/
noncomputable def gotM (M : PM) (v id kind now : Int) : PM := tookM { M with now := now, A := Ak.ansS M.A v id kind, W := Al.dropW M.W id } id
noncomputable def gotP (M : PM) (v id kind now : Int) : PM × Ak.AskD × Int :=
  if comesE M now ≠ 0 then (M, ⟨0, 0, 0⟩, comesE M now)
  else if Ak.ansE M.A v id kind ≠ 0 then ({ M with now := now, A := Ak.ansS M.A v id kind }, ⟨0, 0, 0⟩, Ak.ansE M.A v id kind)
  else ({ gotM M v id kind now with seats := repS M.seats v }, Ak.ansA M.A v id kind, 0)
def SameP (p p' : PD) : Prop := p'.ib = p.ib ∧ p'.ab = p.ab ∧ p'.am = p.am ∧ p'.hb = p.hb ∧ p'.qm = p.qm ∧ p'.la = p.la ∧ p'.lc = p.lc
theorem SameP.refl (p : PD) : SameP p p := ⟨rfl, rfl, rfl, rfl, rfl, rfl, rfl⟩
def SameN (w : World) (p p' : PD) : Prop := SameP p p' ∧ ∀ a, p'.sa = some a → p.sa = some a ∨ w.heap.size ≤ a.block
theorem SameN.refl (w : World) (p : PD) : SameN w p p := ⟨SameP.refl p, fun _ e => .inl e⟩
def GotR (w : World) (F : Nat → Prop) (b : Nat) (p : PD) (r : PM × Ak.AskD × Int) (e : Ending) (w' : World) : Prop :=
  e = .returned (.tuple #[Ak.askV r.2.1, .int .i64 r.2.2]) ∧ (∃ p', SameN w p p' ∧ PeerAt w' F b p' r.1) ∧ Keeps (Own F b p) w w'
theorem obj_own {w w1 W : World} {F : Nat → Prop} {b : Nat} {p : PD} {M : PM} (h : PeerAt w F b p M) (hk : Keeps (Own F b p) w1 W) {n : Nat} {o : Obj} (hn : w.heap.size ≤ n) (ho : obj w1 n = some o) : obj W n = some o :=
  (hk.block n (lt_of_obj ho) (fun hh => by have := h.own_lt hh; omega)).trans ho
set_option maxRecDepth 100000 in
set_option maxHeartbeats 4000000 in
theorem got_any (w : World) (F : Nat → Prop) (b : Nat) (p : PD) (M : PM) (v id kind now : Int) (h : PeerAt w F b p M) (ho : POK M) (hm : Be.mayE M.cfg.q M.l M.seats = 0) (hv : Ak.ansE M.A v id kind = 0 → ∃ i : Nat, v = i ∧ i < M.seats.length) :
    Calls Try.prog 14 #[.pointer (some ⟨b, 0, none⟩), .int .i64 v, .int .i64 id, .int .i64 kind, .int .i64 now] w (GotR w F b p (gotP M v id kind now)) := by
  have HH := Lib.hid h
  have HO := Lib.hid ho
  have HMY := Lib.hid hm
  have HV := Lib.hid hv
  have b0 : Below w.heap.size w (w.alloc (.cells #[.int .i64 0, .int .i64 0, .int .i64 0] 47)) := (Below.refl _ w).alloc (Nat.le_refl _) _
  have H0 := Lib.hid (h.below b0)
  have OR := Lib.hid (show obj (w.alloc (.cells #[.int .i64 0, .int .i64 0, .int .i64 0] 47)) w.heap.size = some (.cells #[.int .i64 0, .int .i64 0, .int .i64 0] 47 (0, 0)) from obj_alloc_at _ _ _ rfl)
  have HC := Lib.hid (comes_any _ F b p M now H0.out)
  have HR0 : Hid (comesE M now ≠ 0 → gotP M v id kind now = (M, ⟨0, 0, 0⟩, comesE M now)) := Lib.hid (fun h => by unfold gotP; rw [if_pos h])
  have HR1 : Hid (comesE M now = 0 → Ak.ansE M.A v id kind ≠ 0 → gotP M v id kind now = ({ M with now := now, A := Ak.ansS M.A v id kind }, ⟨0, 0, 0⟩, Ak.ansE M.A v id kind)) := Lib.hid (fun h h1 => by unfold gotP; rw [if_neg (fun hh => hh h), if_pos h1])
  have HR2 : Hid (comesE M now = 0 → Ak.ansE M.A v id kind = 0 → gotP M v id kind now = ({ gotM M v id kind now with seats := repS M.seats v }, Ak.ansA M.A v id kind, 0)) := Lib.hid (fun h h1 => by unfold gotP; rw [if_neg (fun hh => hh h), if_neg (fun hh => hh h1)])
  generalize gotP M v id kind now = R at *
  have K0 : Hid (Keeps (Own F b p) w (w.alloc (.cells #[.int .i64 0, .int .i64 0, .int .i64 0] 47))) := Lib.hid (Keeps.of_below b0)
  have HNO : Hid (¬ Own F b p w.heap.size) := Lib.hid (fun hh => by have := h.own_lt hh; omega)
  have HLA : Hid (∀ a, p.la = some a → a.block ≠ w.heap.size) := Lib.hid (fun a e => by have := h.l.blk ho.l e; omega)
  have HSA : Hid (∀ a, p.sa = some a → a.block ≠ w.heap.size) := Lib.hid (fun a e => by have := h.seats.blk ho.s e; omega)
  clear h ho hm hv b0
  go_enter Try.func14, Try.ntmps14
  go_wp2_with fail
  generalize w.alloc (.cells #[.int .i64 0, .int .i64 0, .int .i64 0] 47) = w0 at *
  refine HC.out.mono ?_
  rintro e w1 ⟨rfl, h1, k1⟩
  have k1' : Keeps (Own F b p) w0 w1 := k1.mono fun n hn => .inr (.inl hn)
  have K1 : Hid (Keeps (Own F b p) w w1) := Lib.hid (K0.out.trans k1')
  have O1 := Lib.hid (obj_own HH.out k1' (Nat.le_refl _) OR.out)
  have H1 := Lib.hid h1
  clear h1 k1 k1' HC K0 H0 OR
  by_cases hE : comesE M now = 0
  case neg =>
    have HR := Lib.hid (HR0.out hE)
    have HM1 : Hid (comesM M now = M) := Lib.hid (by unfold comesM; rw [if_neg hE])
    generalize comesE M now = E at *
    have x0 := cell_at O1.out 0
    have x1 := cell_at O1.out 1
    have x2 := cell_at O1.out 2
    simp at x0 x1 x2
    have yf := frozen_at O1.out
    have O4 := obj_setCell_at (.int .i64 0) (i := 2) (obj_setCell_at (.int .i64 0) (i := 1) (obj_setCell_at (.int .i64 0) (i := 0) O1.out))
    have y0 := cell_at O4 0
    have y1 := cell_at O4 1
    have y2 := cell_at O4 2
    simp at y0 y1 y2
    have hlw := lt_of_obj O1.out
    have FIN : Hid (PeerAt (((w1.setCell ⟨w.heap.size, 0, none⟩ (.int .i64 0)).setCell ⟨w.heap.size, 1, none⟩ (.int .i64 0)).setCell ⟨w.heap.size, 2, none⟩ (.int .i64 0)) F b p M) := Lib.hid (by rw [HM1.out] at H1; exact H1.out.setFresh3 HNO.out HLA.out HSA.out _ _ _)
    have KF := Lib.hid (keeps_set3 K1.out (Nat.le_refl w.heap.size) (.int .i64 0) (.int .i64 0) (.int .i64 0))
    clear O4
    go_wp2_with fail
    refine bodyPost_ret (v := .tuple #[.agg #[.int .i64 0, .int .i64 0, .int .i64 0], .int .i64 E]) (by simp [results, Try.results14, go_sem, y0, y1, y2]) rfl ⟨by rw [HR.out]; rfl, ⟨p, SameN.refl _ p, by rw [HR.out]; exact FIN.out⟩, KF.out⟩
  have HM1 : Hid (comesM M now = { M with now := now }) := Lib.hid (by unfold comesM; rw [if_pos hE])
  have HE := Lib.hid hE
  rw [HM1.out] at H1
  rw [hE]
  clear hE HM1
  obtain ⟨c0, -, -, -, -, d0, -⟩ := H1.out.cells
  have HA := Lib.hid (Ak.answer_all w1 p.ab p.am M.A v id kind H1.out.asks H1.out.stamp HO.out.a)
  go_wp2_with fail
  refine HA.out.mono ?_
  rintro e w2 ⟨rfl, a1, a2, a3⟩
  have k2 : Keeps (Own F b p) w1 w2 := a3.mono fun n hn => by rcases hn with e | e; exact .inr (.inr (.inr (.inl e))); exact .inr (.inr (.inr (.inr (.inl e))))
  have H2 := Lib.hid (H1.out.setAsks a1 a2 a3)
  have K2 : Hid (Keeps (Own F b p) w w2) := Lib.hid (K1.out.trans k2)
  have O2 := Lib.hid (obj_own HH.out k2 (Nat.le_refl _) O1.out)
  clear a1 a2 a3 k2 HA c0 d0 H1 K1 O1
  have HEQ : Hid (∀ E : Int, E = Ak.ansE M.A v id kind → E ≠ 0 → R = ({ M with now := now, A := Ak.ansS M.A v id kind }, ⟨0, 0, 0⟩, E)) := Lib.hid (fun E e hne => by subst e; exact HR1.out HE.out hne)
  have HVV : Hid (∀ E : Int, E = Ak.ansE M.A v id kind → E = 0 → (∃ i : Nat, v = i ∧ i < M.seats.length) ∧ R = ({ gotM M v id kind now with seats := repS M.seats v }, Ak.ansA M.A v id kind, 0)) := Lib.hid (fun E e h0 => by subst e; exact ⟨HV.out h0, HR2.out HE.out h0⟩)
  have HGM : Hid (gotM M v id kind now = tookM { M with now := now, A := Ak.ansS M.A v id kind, W := Al.dropW M.W id } id) := Lib.hid rfl
  generalize gotM M v id kind now = GM at *
  generalize Ak.ansS M.A v id kind = A2 at *
  obtain ⟨E2, hE2⟩ : ∃ x, x = Ak.ansE M.A v id kind := ⟨_, rfl⟩
  have HQ := Lib.hid (HEQ.out E2 hE2)
  have HW := Lib.hid (HVV.out E2 hE2)
  rw [← hE2]
  clear hE2 HEQ HVV HV HR0 HR1 HR2
  generalize Ak.ansA M.A v id kind = a at *
  obtain ⟨ai, an, ak⟩ := a
  unfold Ak.askV
  simp only
  have hlw2 := lt_of_obj O2.out
  by_cases h20 : E2 = 0
  case neg =>
    have HR := Lib.hid (HQ.out h20)
    have x0 := cell_at O2.out 0
    have x1 := cell_at O2.out 1
    have x2 := cell_at O2.out 2
    simp at x0 x1 x2
    have yf := frozen_at O2.out
    have O4 := obj_setCell_at (.int .i64 0) (i := 2) (obj_setCell_at (.int .i64 0) (i := 1) (obj_setCell_at (.int .i64 0) (i := 0) O2.out))
    have y0 := cell_at O4 0
    have y1 := cell_at O4 1
    have y2 := cell_at O4 2
    simp at y0 y1 y2
    have FIN := Lib.hid (H2.out.setFresh3 HNO.out HLA.out HSA.out (.int .i64 0) (.int .i64 0) (.int .i64 0))
    have KF := Lib.hid (keeps_set3 K2.out (Nat.le_refl w.heap.size) (.int .i64 0) (.int .i64 0) (.int .i64 0))
    have bz : Below (((w2.setCell ⟨w.heap.size, 0, none⟩ (.int .i64 0)).setCell ⟨w.heap.size, 1, none⟩ (.int .i64 0)).setCell ⟨w.heap.size, 2, none⟩ (.int .i64 0)).heap.size (((w2.setCell ⟨w.heap.size, 0, none⟩ (.int .i64 0)).setCell ⟨w.heap.size, 1, none⟩ (.int .i64 0)).setCell ⟨w.heap.size, 2, none⟩ (.int .i64 0)) ((((w2.setCell ⟨w.heap.size, 0, none⟩ (.int .i64 0)).setCell ⟨w.heap.size, 1, none⟩ (.int .i64 0)).setCell ⟨w.heap.size, 2, none⟩ (.int .i64 0)).alloc (.cells #[.int .i64 ai, .int .i64 an, .int .i64 ak] 47)) := (Below.refl _ _).alloc (Nat.le_refl _) _
    have FIN2 := Lib.hid (FIN.out.below bz)
    have KF2 := Lib.hid (KF.out.trans (Keeps.of_below bz))
    clear O4 bz FIN KF
    go_wp2_with fail
    refine bodyPost_ret (v := .tuple #[.agg #[.int .i64 0, .int .i64 0, .int .i64 0], .int .i64 E2]) (by simp [results, Try.results14, go_sem, y0, y1, y2, hlw2]) rfl ⟨by rw [HR.out]; rfl, ⟨p, SameN.refl _ p, by rw [HR.out]; exact FIN2.out⟩, KF2.out⟩
  obtain ⟨⟨i, hvi, hi⟩, hR⟩ := HW.out h20
  have HR := Lib.hid hR
  subst h20
  subst hvi
  clear hR HW HQ
  have b3 : Below w2.heap.size w2 (w2.alloc (.cells #[.int .i64 ai, .int .i64 an, .int .i64 ak] 47)) := (Below.refl _ _).alloc (Nat.le_refl _) _
  have H3 := Lib.hid (H2.out.below b3)
  have K3 : Hid (Keeps (Own F b p) w (w2.alloc (.cells #[.int .i64 ai, .int .i64 an, .int .i64 ak] 47))) := Lib.hid (K2.out.trans (Keeps.of_below b3))
  have O3 := Lib.hid ((obj_below b3 hlw2).trans O2.out)
  have T3 := Lib.hid (show obj (w2.alloc (.cells #[.int .i64 ai, .int .i64 an, .int .i64 ak] 47)) w2.heap.size = some (.cells #[.int .i64 ai, .int .i64 an, .int .i64 ak] 47 (0, 0)) from obj_alloc_at _ _ _ rfl)
  obtain ⟨c0, -, -, -, -, -, d1⟩ := H2.out.cells
  have lb2 := H2.out.lt
  have li2 := lt_of_obj H2.out.inn
  have HD := Lib.hid (Al.drop_hp _ F p.hb M.W id H3.out.heap)
  have hz2 := K2.out.size
  clear b3
  go_wp2_with fail
  generalize w2.alloc (.cells #[.int .i64 ai, .int .i64 an, .int .i64 ak] 47) = w3 at *
  generalize w2.heap.size = tb at *
  refine HD.out.mono ?_
  rintro e w4 ⟨rfl, hp4, k4⟩
  have k4' : Keeps (Own F b p) w3 w4 := k4.mono fun n hn => .inl hn
  have H4 := Lib.hid (H3.out.setHeap hp4 (fun n hn => .inl hn) k4 HO.out.l HO.out.s)
  have K4 : Hid (Keeps (Own F b p) w w4) := Lib.hid (K3.out.trans k4')
  have O4 := Lib.hid (obj_own HH.out k4' (Nat.le_refl _) O3.out)
  have T4 := Lib.hid (obj_own HH.out k4' hz2 T3.out)
  clear hp4 k4 k4' HD H3 K3 O3 T3 c0 d1 lb2 li2 H2 K2 O2 hlw2
  have HTK := Lib.hid (took_any w4 F b p _ id H4.out)
  go_wp2_with fail
  refine HTK.out.mono ?_
  rintro e w5 ⟨rfl, h5, k5⟩
  rw [← HGM.out] at h5
  have k5' : Keeps (Own F b p) w4 w5 := k5.mono fun n hn => by rcases hn with e | e; exact .inr (.inl e); exact .inr (.inr (.inr (.inr (.inr e))))
  have H5 := Lib.hid h5
  have K5 : Hid (Keeps (Own F b p) w w5) := Lib.hid (K4.out.trans k5')
  have O5 := Lib.hid (obj_own HH.out k5' (Nat.le_refl _) O4.out)
  have T5 := Lib.hid (obj_own HH.out k5' hz2 T4.out)
  have e1 : GM.cfg = M.cfg := by rw [HGM.out]; rfl
  have e2 : GM.l = M.l := by rw [HGM.out]; rfl
  have e3 : GM.seats = M.seats := by rw [HGM.out]; rfl
  obtain ⟨b7, b8, b9, b10, b11⟩ := H5.out.bench
  obtain ⟨-, c12, -, c16, -, -, -⟩ := H5.out.cells
  have HL5 := H5.out.l
  have HS5 := H5.out.seats
  rw [e1] at b7 b8 b9 b10 b11
  rw [e2] at c12 HL5
  rw [e3] at c16 HS5
  have HE3 := Lib.hid e3
  have HRP := Lib.hid (fun W (hW : Below w5.heap.size w5 W) => Be.replied_any W M.cfg.q (.slice p.la M.l.length p.lc) (.slice p.sa M.seats.length p.sc) M.l M.seats i (HL5.below hW) (HS5.below hW) HMY.out hi)
  clear h5 k5 k5' HTK H4 K4 O4 T4 e1 e2 e3 HL5 HS5
  unfold Be.ruV at HRP
  have hb5 := H5.out.lt
  have HSW : ∀ W, Below w5.heap.size w5 W → (W.cell? ⟨b, 7, none⟩ = some (.int .i64 M.cfg.q.f) ∧ W.cell? ⟨b, 8, none⟩ = some (.int .i64 M.cfg.q.lo) ∧ W.cell? ⟨b, 9, none⟩ = some (.int .i64 M.cfg.q.fo) ∧ W.cell? ⟨b, 10, none⟩ = some (.int .i64 M.cfg.q.nu) ∧ W.cell? ⟨b, 11, none⟩ = some (.int .i64 M.cfg.q.de) ∧ W.cell? ⟨b, 12, none⟩ = some (.slice p.la M.l.length p.lc) ∧ W.cell? ⟨b, 16, none⟩ = some (.slice p.sa M.seats.length p.sc)) := fun W hW => ⟨(hW.cell (p := ⟨b, 7, none⟩) hb5).trans b7, (hW.cell (p := ⟨b, 8, none⟩) hb5).trans b8, (hW.cell (p := ⟨b, 9, none⟩) hb5).trans b9, (hW.cell (p := ⟨b, 10, none⟩) hb5).trans b10, (hW.cell (p := ⟨b, 11, none⟩) hb5).trans b11, (hW.cell (p := ⟨b, 12, none⟩) hb5).trans c12, (hW.cell (p := ⟨b, 16, none⟩) hb5).trans c16⟩
  have HSWH := Lib.hid HSW
  clear HSW
  go_wp2_with fail
  go_region_held3 (fun W => W.cell? ⟨b, 7, none⟩ = some (.int .i64 M.cfg.q.f) ∧ W.cell? ⟨b, 8, none⟩ = some (.int .i64 M.cfg.q.lo) ∧ W.cell? ⟨b, 9, none⟩ = some (.int .i64 M.cfg.q.fo) ∧ W.cell? ⟨b, 10, none⟩ = some (.int .i64 M.cfg.q.nu) ∧ W.cell? ⟨b, 11, none⟩ = some (.int .i64 M.cfg.q.de) ∧ W.cell? ⟨b, 12, none⟩ = some (.slice p.la M.l.length p.lc) ∧ W.cell? ⟨b, 16, none⟩ = some (.slice p.sa M.seats.length p.sc))
    (first | exact ⟨b7, b8, b9, b10, b11, c12, c16⟩ | assumption)
    (first
      | (go_at_call 44; (with_reducible refine (HRP.out w5.drew (Below.refl _ w5).drew).mono ?_); rintro e w6 ⟨sv, rfl, own6, b6⟩; have G6 : Hid (Below w5.heap.size w5 w6) := Lib.hid ((Below.refl _ w5).drew.trans b6); obtain ⟨oa6, cap6, e6⟩ := own6.slice; subst e6; have s6 := HSWH.out w6 G6.out; have OW6 := Lib.hid own6; clear own6 b6))
  have hsl : (M.seats.set i ⟨0, 0, M.seats[i].u⟩).length = M.seats.length := List.length_set
  have HREP := Lib.hid (repS_at hi)
  generalize hs9 : M.seats.set i ⟨0, 0, M.seats[i].u⟩ = s9 at *
  clear hs9 s6 b7 b8 b9 b10 b11 c12 c16 HRP
  have HA6 : Hid (∀ a, oa6 = some a → w5.heap.size ≤ a.block) := Lib.hid (fun a e => (OW6.out.1.lt a.block (by rw [e]; rfl)).1)
  have H6 := Lib.hid (H5.out.below G6.out)
  have O6 := Lib.hid ((obj_below G6.out (lt_of_obj O5.out)).trans O5.out)
  have T6 := Lib.hid ((obj_below G6.out (lt_of_obj T5.out)).trans T5.out)
  have hwz := HH.out.lt
  have hrb : w.heap.size ≠ b := by omega
  have htb : tb ≠ b := by omega
  have H7 := Lib.hid (H6.out.setSeats (s' := s9) (OW6.out.slIn Be.stL_length) (fun a e => H5.out.apart_new (HA6.out a e)))
  have hz6 := G6.out.size
  have hz5 := K5.out.size
  have O7 : Hid (obj (w6.setCell ⟨b, 16, none⟩ (.slice oa6 s9.length cap6)) w.heap.size = _) := Lib.hid ((obj_setCell_ne _ ⟨b, 16, none⟩ _ _ hrb).trans O6.out)
  have T7 : Hid (obj (w6.setCell ⟨b, 16, none⟩ (.slice oa6 s9.length cap6)) tb = _) := Lib.hid ((obj_setCell_ne _ ⟨b, 16, none⟩ _ _ htb).trans T6.out)
  have K7 : Hid (Keeps (Own F b p) w (w6.setCell ⟨b, 16, none⟩ (.slice oa6 s9.length cap6))) := Lib.hid ((K5.out.trans (Keeps.of_below G6.out)).setCell (a := ⟨b, 16, none⟩) (.inl (.inr (.inl rfl))) _)
  have FIN := Lib.hid (H7.out.setFresh3 HNO.out HLA.out (fun a e => by have := HA6.out a e; have := lt_of_obj O5.out; omega) (.int .i64 ai) (.int .i64 an) (.int .i64 ak))
  have KF := Lib.hid (keeps_set3 K7.out (Nat.le_refl w.heap.size) (.int .i64 ai) (.int .i64 an) (.int .i64 ak))
  rw [hsl] at O7 T7 K7 FIN KF
  clear H7 hsl
  have x0 := cell_at O7.out 0
  have x1 := cell_at O7.out 1
  have x2 := cell_at O7.out 2
  have z0 := cell_at T7.out 0
  have z1 := cell_at T7.out 1
  have z2 := cell_at T7.out 2
  simp at x0 x1 x2 z0 z1 z2
  have yf := frozen_at O7.out
  have zf := frozen_at H6.out.box
  obtain ⟨-, -, -, c16, -, -, -⟩ := H6.out.cells
  have hb6 := H6.out.lt
  have O8 := obj_setCell_at (.int .i64 ak) (i := 2) (obj_setCell_at (.int .i64 an) (i := 1) (obj_setCell_at (.int .i64 ai) (i := 0) O7.out))
  have y0 := cell_at O8 0
  have y1 := cell_at O8 1
  have y2 := cell_at O8 2
  simp at y0 y1 y2
  clear O8
  go_wp2_with fail
  refine bodyPost_ret (v := .tuple #[.agg #[.int .i64 ai, .int .i64 an, .int .i64 ak], .int .i64 0]) (by simp [results, Try.results14, go_sem, y0, y1, y2]) rfl ⟨by rw [HR.out]; rfl, ⟨{ p with sa := oa6, sc := cap6 }, ⟨⟨rfl, rfl, rfl, rfl, rfl, rfl, rfl⟩, fun a e => .inr (Nat.le_trans hz5 (HA6.out a e))⟩, by rw [HR.out, HREP.out]; exact FIN.out⟩, KF.out⟩
end Go.Proofs.Ytagpclgappcnbaa
