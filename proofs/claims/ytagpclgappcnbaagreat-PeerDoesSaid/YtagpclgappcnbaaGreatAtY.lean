import Derived.Test.YtagpclgappcnbaaGreatOps
import Derived.Test.YtagpclgappcnbaaGreatBkVV
import Derived.Test.YtagpclgappcnbaaGreatBkO
namespace Go.Proofs.YtagpclgappcnbaaGreat
open Go.RowKit

/-! ### when an act is done -/
def atE (x : OpM) (time : Int) : Int := if x.past = true then x.now else if 4611686018427387903 - time < x.ticks then 4611686018427387903 else time + x.ticks
set_option maxRecDepth 100000 in
theorem at_any (w : World) (x : OpM) (time : Int) (hx : OpOK x) (h0 : 0 ≤ time) (h1 : time ≤ 4611686018427387903) : Calls Tryz.prog 34 #[.agg #[.int .i64 x.d, .int .i64 x.v, .int .i64 x.id, .int .i64 x.kind, .int .u16 x.ticks, .bool x.past, .int .i64 x.now], .int .i64 time] w fun e w' => e = .returned (.int .i64 (atE x time)) ∧ Below w.heap.size w w' := by
  have HX := Lib.hid hx
  obtain ⟨t0, t1⟩ := hx
  have HE : Hid (atE x time = if x.past = true then x.now else if 4611686018427387903 - time < x.ticks then 4611686018427387903 else time + x.ticks) := Lib.hid rfl
  have hb : Below w.heap.size w (w.alloc (.cells #[.int .i64 x.d, .int .i64 x.v, .int .i64 x.id, .int .i64 x.kind, .int .u16 x.ticks, .bool x.past, .int .i64 x.now] 45)) := (Below.refl _ w).alloc (Nat.le_refl _) _
  have HB := Lib.hid hb
  clear hb
  generalize atE x time = E at *
  obtain ⟨d, v, id, kind, ticks, past, now⟩ := x
  simp only at t0 t1 HE
  have hw1 : IntKind.i64.wrap (4611686018427387903 - time) = 4611686018427387903 - time := wrap_id (by omega) (by omega)
  have hw2 : IntKind.i64.wrap ticks = ticks := wrap_id (by omega) (by omega)
  go_enter Tryz.func34, Tryz.ntmps34
  cases past with
  | true =>
    obtain rfl : E = now := by rw [HE.out, if_pos rfl]
    go_wp2_with fail
    go_ret
    exact ⟨rfl, HB.out⟩
  | false =>
    by_cases hc : 4611686018427387903 - time < ticks
    · obtain rfl : E = 4611686018427387903 := by rw [HE.out, if_neg (by decide), if_pos hc]
      go_wp2_with fail
      go_ret
      exact ⟨rfl, HB.out⟩
    · obtain rfl : E = time + ticks := by rw [HE.out, if_neg (by decide), if_neg hc]
      have hw3 : IntKind.i64.wrap (time + ticks) = time + ticks := wrap_id (by omega) (by omega)
      go_wp2_with fail
      go_ret
      exact ⟨rfl, HB.out⟩
/-- only ticks told -/
def tickOp (t : Int) : OpM := ⟨0, 0, 0, 0, t, false, 0⟩
theorem atE_bd {t time : Int} (ht : 0 ≤ t) (h0 : 0 ≤ time) (h1 : time ≤ 4611686018427387903) : time ≤ atE (tickOp t) time ∧ atE (tickOp t) time ≤ 4611686018427387903 := by
  unfold atE tickOp
  rw [if_neg (by simp)]
  simp only
  split <;> omega
end Go.Proofs.YtagpclgappcnbaaGreat
namespace Go.Proofs.YtagpclgappcnbaaGreat
open Go.RowKit

/-! ### acts, as the laws see them -/
theorem comes_ok {M : PM} {t : Int} (h0 : M.now ≤ t) (h1 : t ≤ 4611686018427387903) : comesE M t = 0 := by
  unfold comesE
  rw [if_neg (by omega)]
theorem askP_same (M : PM) (v kind now : Int) : (askP M v kind now).1.cfg = M.cfg ∧ (askP M v kind now).1.l = M.l ∧ (askP M v kind now).1.seats = M.seats ∧ (askP M v kind now).1.wait = M.wait ∧ (comesE M now = 0 → (askP M v kind now).1.now = now) := by
  unfold askP
  split
  · rename_i h; exact ⟨rfl, rfl, rfl, rfl, fun h0 => absurd h0 h⟩
  · split
    · exact ⟨rfl, rfl, rfl, rfl, fun _ => rfl⟩
    · split
      · exact ⟨rfl, rfl, rfl, rfl, fun _ => rfl⟩
      · split
        · exact ⟨rfl, rfl, rfl, rfl, fun _ => rfl⟩
        · exact ⟨rfl, rfl, rfl, rfl, fun _ => rfl⟩
theorem gotP_same (M : PM) (v id kind now : Int) : (gotP M v id kind now).1.cfg = M.cfg ∧ (gotP M v id kind now).1.l = M.l ∧ (comesE M now = 0 → (gotP M v id kind now).1.now = now) := by
  unfold gotP
  split
  · rename_i h; exact ⟨rfl, rfl, fun h0 => absurd h0 h⟩
  · split
    · exact ⟨rfl, rfl, fun _ => rfl⟩
    · exact ⟨rfl, rfl, fun _ => rfl⟩
theorem tickP_same (M : PM) (now : Int) : (tickP M now).1.cfg = M.cfg ∧ (tickP M now).1.l = M.l ∧ (comesE M now = 0 → (tickP M now).1.now = now) := by
  unfold tickP
  split
  · rename_i h; exact ⟨rfl, rfl, fun h0 => absurd h0 h⟩
  · obtain ⟨-, h2, h3, h4⟩ := tickF_eqs (Al.dueL now M.W) { M with now := now, W := Al.leftL now M.W }
    exact ⟨h2, h3, fun _ => h4⟩
theorem atO_drop {W : List Al.Al} {k t : Int} (h : Al.atO W k = some t) : Al.atT W k = t ∧ Al.dropE W k = 0 := by
  unfold Al.atO at h
  unfold Al.atT Al.dropE
  split at h
  · rename_i hk
    rw [if_pos hk, if_pos hk]
    exact ⟨Option.some.inj h, rfl⟩
  · cases h
/-- Ask that lets a request wait -/
theorem ask_due {M : PM} (h : PInv M) {v kind now : Int} (hc : comesE M now = 0) (he : (askP M v kind now).2.2.2 = 0) (hb : (askP M v kind now).2.2.1 = false) :
    Al.pushE M.W (askAt M now) (askP M v kind now).2.1 = 0 ∧ (askP M v kind now).1.W = Al.pushW M.W (askAt M now) (askP M v kind now).2.1 ∧
    Al.dropE (askP M v kind now).1.W (askP M v kind now).2.1 = 0 ∧ Al.atT (askP M v kind now).1.W (askP M v kind now).2.1 = askAt M now := by
  have hI := h.askP v kind now
  have hn := PInvW.now h hc
  have hn0 : 0 ≤ now := hn.now0
  have hn1 : now ≤ 4611686018427387903 := hn.now1
  unfold Go.Proofs.YtagpclgappcnbaaGreat.askP at he hb hI ⊢
  rw [if_neg (fun hh => hh hc)] at he hb hI ⊢
  split
  · rename_i hv; rw [if_pos hv] at he; cases he
  rename_i hv
  rw [if_neg hv] at he hb hI
  split
  · rename_i hE; rw [if_pos hE] at he; exact absurd he hE
  rename_i hE
  rw [if_neg hE] at he hb hI
  split
  · rename_i hB; rw [if_pos hB] at hb; cases hb
  rename_i hB
  rw [if_neg hB] at he hI
  have hat := askAt_eq h (now := now) hn0 hn1
  obtain ⟨-, hp, hq⟩ := hn.ask (v := v) (kind := kind) (t := askAt M now) (by show Ak.askE M.A v kind = 0; omega) (by show v < (M.l.length : Int); omega) (by omega) (by omega) []
  have hp : Al.pushE M.W (askAt M now) (Ak.askI M.A v kind) = 0 := hp
  have hk : (Al.keysL (Al.pushW M.W (askAt M now) (Ak.askI M.A v kind))).Nodup := hq.wk
  have hpw : Al.pushW M.W (askAt M now) (Ak.askI M.A v kind) = Al.insL (askAt M now, Ak.askI M.A v kind) M.W := if_pos hp
  have h1 : Al.atO (Al.pushW M.W (askAt M now) (Ak.askI M.A v kind)) (Ak.askI M.A v kind) = some (askAt M now) := by
    rw [hpw] at hk ⊢
    rw [Al.atO_ins hk, if_pos rfl]
  obtain ⟨g1, g2⟩ := atO_drop h1
  exact ⟨hp, rfl, g2, g1⟩
/-- .. that waits no more, or never did -/
theorem ask_no {M : PM} (h : PInv M) {v kind now : Int} (hh : (askP M v kind now).2.2.2 ≠ 0 ∨ (askP M v kind now).2.2.1 = true) : (askP M v kind now).1.W = M.W := by
  by_cases hc : comesE M now = 0
  case neg => unfold askP; rw [if_pos hc]
  have hn := PInvW.now h hc
  have hn0 : 0 ≤ now := hn.now0
  have hn1 : now ≤ 4611686018427387903 := hn.now1
  unfold askP at hh ⊢
  rw [if_neg (fun hh => hh hc)] at hh ⊢
  split
  · rfl
  rename_i hv
  rw [if_neg hv] at hh
  split
  · rfl
  rename_i hE
  rw [if_neg hE] at hh
  split
  · rfl
  rename_i hB
  rw [if_neg hB] at hh
  have hat := askAt_eq h (now := now) hn0 hn1
  obtain ⟨-, hp, hq⟩ := hn.ask (v := v) (kind := kind) (t := askAt M now) (by show Ak.askE M.A v kind = 0; omega) (by show v < (M.l.length : Int); omega) (by omega) (by omega) []
  have hp : Al.pushE M.W (askAt M now) (Ak.askI M.A v kind) = 0 := hp
  simp [hp] at hh
/-- how long a request waits -/
theorem askAt_bd {M : PM} (h : PInv M) {now : Int} (h0 : 0 ≤ now) (h1 : now ≤ 4611686018427387903) : now ≤ askAt M now ∧ askAt M now - now ≤ M.cfg.r.max ∧ (askAt M now - now < M.cfg.r.min → askAt M now = 4611686018427387903) := by
  obtain ⟨e, t1, t2⟩ := askAt_eq h h0 h1
  obtain ⟨m1, m2⟩ := tmo_bd (PInvW.mean h)
  rw [e]
  omega
/-! ### the script's beginning -/
def sliceLo29 (x hi : Value) : Sem Value := Instr.sliceAt 29 x none (some hi) none
theorem run_lo29 {w : World} {oa : Option Addr} {cap : Nat} {xs : List OpM} (h : SlIn w (.slice oa xs.length cap) 7 opL xs) {k : Nat} (hk : k ≤ xs.length) : ∀ W, (sliceLo29 (.slice oa xs.length cap) (.int .i64 k)).run Tryz.prog W = .ok (.slice oa k cap) W := by
  intro W
  obtain ⟨oa', cap', e, h1, h2, h3⟩ := h
  simp only [Value.slice.injEq] at e
  obtain ⟨rfl, _, rfl⟩ := e
  unfold maxLen at h2
  unfold sliceLo29
  cases oa with
  | none =>
    go_simp
    intro hlt
    omega
  | some ad =>
    obtain ⟨b, off, pth⟩ := ad
    go_simp
    intro hlt
    omega
@[go_sem ↓] theorem hide_lo29 (x hi : Value) : Instr.sliceAt 29 x none (some hi) none = sliceLo29 x hi := rfl
theorem SlIn.takeC {α : Type} {w : World} {oa : Option Addr} {cap k j : Nat} {enc : α → List Value} {xs : List α} (h : SlIn w (.slice oa xs.length cap) k enc xs) (hj : j ≤ xs.length) : SlIn w (.slice oa j cap) k enc (xs.take j) := by
  obtain ⟨oa', cap', e, h1, h2, h3⟩ := h
  simp only [Value.slice.injEq] at e
  obtain ⟨rfl, _, rfl⟩ := e
  have hl : (xs.take j).length = j := by simp; omega
  refine ⟨oa, cap, by rw [hl], by rw [hl]; omega, h2, fun h0 => ?_⟩
  obtain ⟨b, off, e, hb, hr⟩ := h3 (by omega)
  refine ⟨b, off, e, hb, fun i hi => ?_⟩
  have := hr i (by omega)
  rw [List.getElem_take]
  exact this
end Go.Proofs.YtagpclgappcnbaaGreat
