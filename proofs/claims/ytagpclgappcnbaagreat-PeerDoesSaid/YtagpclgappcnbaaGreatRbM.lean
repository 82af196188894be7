import Derived.Test.YtagpclgappcnbaaGreatBkJJ
import Derived.Test.YtagpclgappcnbaaGreatAkCl
import Derived.Test.YtagpclgappcnbaaGreatAlCl
import Derived.LoopTactic
import Derived.Deep.RegionHeld3
namespace Go.Proofs.YtagpclgappcnbaaGreat
open Go.RowKit

/-! ### the peer's Clone -/
@[local go_sem ↓] theorem hide_load86 (a : Addr) : loadVar 86 a = loadAgg 86 a := rfl
@[local go_sem] theorem run_load86 (b off : Nat) (W : World) : (loadAgg 86 ⟨b, off, none⟩).run Tryz.prog W = loadRes Tryz.prog 86 ⟨b, off, none⟩ W (subOf (obj W b) off 18) := run_loadAgg Tryz.isAgg86 Tryz.sizeOf86 b off W
@[local go_sem ↓] theorem hide_store86 (a : Addr) (v : Value) : storeVar 86 a v = storeAgg 86 a v := rfl
def zero86 : Array Value := #[.pointer none, .int .i64 0, .int .i64 0, .int .i64 0, .int .i64 0, .int .i64 0, .int .i64 0, .int .i64 0, .int .i64 0, .int .i64 0, .int .i64 0, .int .i64 0, .slice none 0 0, .int .i64 0, .int .i64 0, .int .i64 0, .slice none 0 0, .map none]
theorem run_store86 (w : World) (p : PD) (M : PM) : (storeAgg 86 ⟨w.heap.size, 0, none⟩ (.agg (bkC p M))).run Tryz.prog (w.alloc (.cells zero86 86)) = .ok () (putObj (w.alloc (.cells zero86 86)) w.heap.size (.cells (bkC p M) 86)) := by
  rw [run_storeAgg (n := 18) (fun w => by kernel_rfl), obj_alloc_at _ _ _ rfl]
  rfl
theorem cons_erase {α : Type} : ∀ (l : List α) (i : Nat) (hi : i < l.length), (l[i] :: l.eraseIdx i).Perm l := by
  intro l
  induction l with
  | nil => intro i hi; exact absurd hi (Nat.not_lt_zero _)
  | cons a l ih =>
    intro i hi
    cases i with
    | zero => exact List.Perm.refl _
    | succ i =>
      have := ih i (by simpa using hi)
      simp only [List.getElem_cons_succ, List.eraseIdx_cons_succ]
      exact (List.Perm.swap _ _ _).trans (this.cons a)
/-- what a range has still to come -/
def leftN (w : World) (r m : Nat) : Nat :=
  match obj w m, obj w r with
  | some (.map es _), some (.mapIter _ _ seen _) => (leftOf es seen).size
  | _, _ => 0
theorem RngB.left {α ν : Type} {ek : α → Value} {enc : ν → Value} {w : World} {r m : Nat} {L todo : List (α × ν)} (h : RngB w r m ek enc L todo) : leftN w r m = todo.length := by
  obtain ⟨es, clk, since, seen, c0, h1, _, _, _, _, _, h6, h7⟩ := h
  unfold leftN
  rw [h1, h6]
  simpa using h7.length
def keyI (k : Int) : Value := .int .i64 k
theorem mapB_of {w : World} {m : Nat} {L : List (Int × Int)} (h : MapI w m Al.intV L) (hs : Ak.StampM w m) : MapB w m keyI Al.intV L := by
  obtain ⟨es, clk, h1, h2⟩ := h
  exact ⟨es, clk, h1, RepI.repK h2, hs.of h1⟩
theorem cloAt {W : World} {M : PM} {p : PD} {xb ib ab am hb qm U : Nat} {F' : Nat → Prop}
    (box : obj W xb = some (.cells #[.pointer (some ⟨ib, 0, none⟩), .int .i64 M.cfg.room, .int .i64 M.cfg.r.first, .int .i64 M.cfg.r.min, .int .i64 M.cfg.r.max, .int .i64 M.cfg.r.half, .int .i64 M.cfg.r.quart, .int .i64 M.cfg.q.f, .int .i64 M.cfg.q.lo, .int .i64 M.cfg.q.fo, .int .i64 M.cfg.q.nu, .int .i64 M.cfg.q.de, .slice p.la M.l.length p.lc, .int .i64 M.now, .int .i64 M.wait.value, .int .i64 M.wait.at_, .slice p.sa M.seats.length p.sc, .map (some qm)] 86 (0, 0)))
    (inn : obj W ib = some (.cells #[.pointer (some ⟨ab, 0, none⟩), .pointer (some ⟨hb, 0, none⟩)] 83 (0, 0)))
    (bk : Ak.BK W ab am M.A) (hp : Al.Hp W F' hb M.W) (hl : SlIn W (.slice p.la M.l.length p.lc) 2 Be.vdL M.l) (hs : SlIn W (.slice p.sa M.seats.length p.sc) 3 Be.stL M.seats) (hq : obj W qm = some (.map #[] 0))
    (h1 : ab = xb + 1) (h2 : am = xb + 2) (hU : xb + 2 < U) (hF : ∀ n, F' n → U ≤ n ∧ n < ib) (hi : U ≤ ib) (hm : qm = ib + 1) (jl : ∀ a, p.la = some a → a.block < xb) (js : ∀ a, p.sa = some a → a.block < xb) :
    PeerAt W F' xb ⟨ib, ab, am, hb, qm, p.la, p.lc, p.sa, p.sc⟩ { M with asked := [] } ∧ ∀ n, Own F' xb ⟨ib, ab, am, hb, qm, p.la, p.lc, p.sa, p.sc⟩ n → xb ≤ n := by
  subst h1 h2 hm
  have nf : ∀ n, (n < U ∨ ib ≤ n) → ¬ F' n := fun n hn hf => by have := hF n hf; omega
  refine ⟨⟨box, inn, bk.at_, bk.st, hp, hl, hs, ⟨#[], 0, hq, trivial⟩, fun a e => ?_, fun a e => ?_, nf _ ?_, nf _ ?_, nf _ ?_, nf _ ?_, nf _ ?_, ?_, ⟨#[], 0, hq, by simp [StampOK]⟩⟩, fun n hn => ?_⟩
  · have := jl a e
    exact ⟨nf _ (by omega), (by omega), (by dsimp only; omega), (by dsimp only; omega), (by dsimp only; omega), (by dsimp only; omega)⟩
  · have := js a e
    exact ⟨nf _ (by omega), (by omega), (by dsimp only; omega), (by dsimp only; omega), (by dsimp only; omega), (by dsimp only; omega)⟩
  · omega
  all_goals (try (dsimp only; omega))
  · rcases hn with hn | hn | hn | hn | hn | hn
    · have := hF n hn; omega
    all_goals (first | omega | (dsimp only at hn; omega))
theorem clo_fresh {L D todo : List (Int × Int)} (hn : (L.map (·.1)).Nodup) (hp : (D ++ todo).Perm L) {i : Nat} (hi : i < todo.length) : aPut (todo[i]).1 (todo[i]).2 D = D ++ [todo[i]] ∧ ((D ++ [todo[i]]) ++ todo.eraseIdx i).Perm L := by
  constructor
  · refine put_new _ _ fun hm => ?_
    have h1 := ((hp.map (·.1)).nodup_iff).2 hn
    rw [List.map_append, List.nodup_append] at h1
    exact h1.2.2 _ hm _ (List.mem_map.2 ⟨_, List.getElem_mem hi, rfl⟩) rfl
  · rw [List.append_assoc]
    exact ((cons_erase todo i hi).append_left D).trans hp
/-- one entry is copied -/
theorem clo_next {w wr w2 : World} {F3 : Nat → Prop} {M : PM} {p q : PD} {D todo2 : List (Int × Int)} {x1 x2 : Int} {rn qn : Nat} (hq0 : q.qm = qn) (hm : p.qm < w.heap.size) (hwq : w.heap.size ≤ qn) (hnr : qn < rn)
    (HP : PeerAt wr F3 w.heap.size q { M with asked := D }) (HR : RngB w2 rn p.qm keyI Al.intV M.asked todo2) (HB : Below w.heap.size w wr) (hk : Keeps (fun k => k = rn) wr w2)
    (HOR : ∀ n, Own F3 w.heap.size q n → n ≠ rn) (HLA : ∀ a, q.la = some a → a.block < w.heap.size) (HSA : ∀ a, q.sa = some a → a.block < w.heap.size) :
    ∃ es' clk', (Instr.mapUpdate 84 (.map (some qn)) (.int .i64 x1) (.int .i64 x2)).run Tryz.prog w2 = .ok () (putObj w2 qn (.map es' clk')) ∧ w2.cell? ⟨w.heap.size, 17, none⟩ = some (.map (some qn)) ∧ w.heap.size < w2.heap.size ∧
      PeerAt (putObj w2 qn (.map es' clk')) F3 w.heap.size q { M with asked := aPut x1 x2 D } ∧ RngB (putObj w2 qn (.map es' clk')) rn p.qm keyI Al.intV M.asked todo2 ∧ Below w.heap.size w (putObj w2 qn (.map es' clk')) := by
  subst hq0
  have hz := HB.size
  have HP2 : PeerAt w2 F3 w.heap.size q { M with asked := D } := HP.keep hk (fun n hn ho => HOR n ho hn) (fun a e h => by have := HLA a e; have : a.block = rn := h; omega) (fun a e h => by have := HSA a e; have : a.block = rn := h; omega) (fun a e => by have := HLA a e; omega) (fun a e => by have := HSA a e; omega)
  have HB2 : Below w.heap.size w w2 := HB.trans (hk.below (B := w.heap.size) (fun k hk => by omega) hz)
  obtain ⟨es, clk, hq, hr⟩ := HP2.asked
  obtain ⟨es', clk', hu, hr', hs'⟩ := Ak.run_mapUpdate_is (P := Tryz.prog) (enc := Al.intV) (clk := clk) Tryz.underlying84 Tryz.underlying2 hr (HP2.stq.of hq) q.qm x1 x2
  have hql := lt_of_obj hq
  exact ⟨es', clk', hu w2 hq, HP2.cells.2.2.2.2.1, HP2.lt, HP2.putAsked (L := aPut x1 x2 D) (o := .map es' clk') ⟨es', clk', obj_putObj_at _ _ _ hql, hr'⟩ ⟨es', clk', obj_putObj_at _ _ _ hql, hs'⟩,
    HR.of_obj (obj_putObj_ne _ _ _ _ (by omega)) (obj_putObj_ne _ _ _ _ (by omega)), below_putObj HB2 hwq (.map es' clk')⟩
structure CloR (w : World) (F : Nat → Prop) (b : Nat) (p : PD) (M : PM) (e : Ending) (w' : World) : Prop where
  ex : ∃ nb p' F' a', e = .returned (.pointer (some ⟨nb, 0, none⟩)) ∧ PeerAt w' F' nb p' { M with asked := a' } ∧ a'.Perm M.asked ∧ p'.la = p.la ∧ p'.sa = p.sa ∧ ∀ n, Own F' nb p' n → w.heap.size ≤ n
  hb : Below w.heap.size w w'
set_option maxRecDepth 100000 in
set_option maxHeartbeats 4000000 in
theorem clone_any (w : World) (F : Nat → Prop) (b : Nat) (p : PD) (M : PM) (h : PeerAt w F b p M) (hR : Ak.RiseL M.A.L) (hn : (M.asked.map (·.1)).Nodup) (ho : POK M) :
    Calls Tryz.prog 13 #[.pointer (some ⟨b, 0, none⟩)] w (CloR w F b p M) := by
  have H := Lib.hid h
  have HN := Lib.hid hn
  have HRI := Lib.hid hR
  have HO := Lib.hid ho
  have hbl := h.lt
  have L1 : loadRes Tryz.prog 86 ⟨b, 0, none⟩ w (subOf (obj w b) 0 18) = .ok (.agg (bkC p M)) w := by rw [h.box]; rfl
  have L2 := run_store86 w p M
  have BX := Lib.hid (show Below w.heap.size w (w.alloc (.cells (bkC p M) 86)) from (Below.refl _ w).alloc (Nat.le_refl _) _)
  have OX := Lib.hid (show obj (w.alloc (.cells (bkC p M) 86)) w.heap.size = some (.cells (bkC p M) 86 (0, 0)) from obj_alloc_at _ _ _ rfl)
  have SZ := Lib.hid (show (w.alloc (.cells (bkC p M) 86)).heap.size = w.heap.size + 1 by simp)
  unfold bkC at L1 L2 BX OX SZ
  unfold zero86 at L2
  clear h hn hR ho
  go_enter Tryz.func13, Tryz.ntmps13
  go_wp2_with fail
  refine (none_no w F b p M H.out).mono ?_
  rintro e w1 ⟨rfl, hw⟩
  cases hw
  go_wp2_with fail
  clear L1 L2
  generalize w.alloc (.cells #[.pointer (some ⟨p.ib, 0, none⟩), .int .i64 M.cfg.room, .int .i64 M.cfg.r.first, .int .i64 M.cfg.r.min, .int .i64 M.cfg.r.max, .int .i64 M.cfg.r.half, .int .i64 M.cfg.r.quart, .int .i64 M.cfg.q.f, .int .i64 M.cfg.q.lo, .int .i64 M.cfg.q.fo, .int .i64 M.cfg.q.nu, .int .i64 M.cfg.q.de, .slice p.la M.l.length p.lc, .int .i64 M.now, .int .i64 M.wait.value, .int .i64 M.wait.at_, .slice p.sa M.seats.length p.sc, .map (some p.qm)] 86) = wx at *
  have HX := Lib.hid (H.out.below BX.out)
  have HA1 := Lib.hid (fun W (hW : Below wx.heap.size wx W) => Ak.clone_book W p.ab p.am M.A ⟨(HX.out.below hW).asks, (HX.out.below hW).stamp, HRI.out⟩)
  have HA2 := Lib.hid (fun W (hW : Below wx.heap.size wx W) => Al.cloneH W F p.hb M.W (HX.out.below hW).heap)
  obtain ⟨c0, -, -, -, -, d0, d1⟩ := HX.out.cells
  have lxb := HX.out.lt
  have lxi := lt_of_obj HX.out.inn
  have hxz : wx.drew.heap.size = wx.heap.size := rfl
  go_region_held3 (fun W => W.cell? ⟨b, 0, none⟩ = some (.pointer (some ⟨p.ib, 0, none⟩)) ∧ W.cell? ⟨p.ib, 0, none⟩ = some (.pointer (some ⟨p.ab, 0, none⟩)) ∧ W.cell? ⟨p.ib, 1, none⟩ = some (.pointer (some ⟨p.hb, 0, none⟩)))
    (first | exact ⟨c0, d0, d1⟩ | assumption | exact SA _ | exact SB _ _)
    (first
      | (go_at_call 51; (with_reducible refine (HA1.out _ (Below.refl _ wx).drew).mono ?_); rintro e w2 ⟨rfl, bk2, b2⟩; have G2 : Hid (Below wx.heap.size wx w2) := Lib.hid ((Below.refl _ wx).drew.trans b2); have s2 : w2.cell? ⟨b, 0, none⟩ = some (.pointer (some ⟨p.ib, 0, none⟩)) ∧ w2.cell? ⟨p.ib, 0, none⟩ = some (.pointer (some ⟨p.ab, 0, none⟩)) ∧ w2.cell? ⟨p.ib, 1, none⟩ = some (.pointer (some ⟨p.hb, 0, none⟩)) := (by have q := (HX.out.below G2.out).cells; exact ⟨q.1, q.2.2.2.2.2.1, q.2.2.2.2.2.2⟩); have BK2 : Hid (Ak.BK w2 wx.heap.size (wx.heap.size + 1) M.A) := Lib.hid bk2; clear bk2 b2)
      | (go_at_call 52; (with_reducible refine (HA2.out w2 G2.out).mono ?_); rintro e w3 ⟨⟨hb3, F3, rfl, hp3, hf3⟩, b3⟩; have G3 : Hid (Below wx.heap.size wx w3) := Lib.hid (G2.out.trans (b3.mono G2.out.size)); have s3 : w3.cell? ⟨b, 0, none⟩ = some (.pointer (some ⟨p.ib, 0, none⟩)) ∧ w3.cell? ⟨p.ib, 0, none⟩ = some (.pointer (some ⟨p.ab, 0, none⟩)) ∧ w3.cell? ⟨p.ib, 1, none⟩ = some (.pointer (some ⟨p.hb, 0, none⟩)) := (by have q := (HX.out.below G3.out).cells; exact ⟨q.1, q.2.2.2.2.2.1, q.2.2.2.2.2.2⟩); have BK3 := Lib.hid (And.intro BK2.out b3); have HP3 := Lib.hid hp3; have HF3 := Lib.hid hf3; have ox3 := (obj_below G3.out (lt_of_obj OX.out)).trans OX.out; have e0 := cell_at ox3 0; have ez := frozen_at ox3; have el := lt_of_obj ox3; clear hp3 hf3 b3
         have SA : ∀ o, (w3.alloc o).cell? ⟨b, 0, none⟩ = some (.pointer (some ⟨p.ib, 0, none⟩)) ∧ (w3.alloc o).cell? ⟨p.ib, 0, none⟩ = some (.pointer (some ⟨p.ab, 0, none⟩)) ∧ (w3.alloc o).cell? ⟨p.ib, 1, none⟩ = some (.pointer (some ⟨p.hb, 0, none⟩)) := (fun o => (by have q := (HX.out.below (G3.out.alloc G3.out.size o)).cells; exact ⟨q.1, q.2.2.2.2.2.1, q.2.2.2.2.2.2⟩))
         have SB : ∀ o v, ((w3.setCell ⟨w.heap.size, 0, none⟩ v).alloc o).cell? ⟨b, 0, none⟩ = some (.pointer (some ⟨p.ib, 0, none⟩)) ∧ ((w3.setCell ⟨w.heap.size, 0, none⟩ v).alloc o).cell? ⟨p.ib, 0, none⟩ = some (.pointer (some ⟨p.ab, 0, none⟩)) ∧ ((w3.setCell ⟨w.heap.size, 0, none⟩ v).alloc o).cell? ⟨p.ib, 1, none⟩ = some (.pointer (some ⟨p.hb, 0, none⟩)) := (fun o v => (by have q := (H.out.below ((BX.out.trans (G3.out.mono BX.out.size)).setCell (p := ⟨w.heap.size, 0, none⟩) (Nat.le_refl _) v |>.alloc (by have := BX.out.size; have := G3.out.size; simp; omega) o)).cells; exact ⟨q.1, q.2.2.2.2.2.1, q.2.2.2.2.2.2⟩))))
  have HL := Lib.hid (fun a e => H.out.l.blk HO.out.l (a := a) e)
  have HS := Lib.hid (fun a e => H.out.seats.blk HO.out.s (a := a) e)
  have HMB := Lib.hid (fun V (hV : Below w.heap.size w V) => mapB_of (H.out.below hV).asked (H.out.below hV).stq)
  have hbx : b ≠ w.heap.size := by omega
  have q2 := BK3.out.1.at_.mlt
  have q3 := BK3.out.2.size
  have B3 := BX.out.trans (G3.out.mono BX.out.size)
  have b4 : Below w.heap.size w ((w3.setCell ⟨w.heap.size, 0, none⟩ (.pointer (some ⟨w3.heap.size, 0, none⟩))).alloc (.cells #[.pointer (some ⟨wx.heap.size, 0, none⟩), .pointer (some ⟨hb3, 0, none⟩)] 83)) := (B3.setCell (p := ⟨w.heap.size, 0, none⟩) (Nat.le_refl _) _).alloc (by have := B3.size; simpa using this) _
  have B4 := Lib.hid b4
  have ob : ∀ n, n < w3.heap.size → n ≠ w.heap.size → obj ((w3.setCell ⟨w.heap.size, 0, none⟩ (.pointer (some ⟨w3.heap.size, 0, none⟩))).alloc (.cells #[.pointer (some ⟨wx.heap.size, 0, none⟩), .pointer (some ⟨hb3, 0, none⟩)] 83)) n = obj w3 n := fun n h1 h2 => (obj_alloc_past _ _ _ (by simpa using h1)).trans (obj_setCell_ne _ ⟨w.heap.size, 0, none⟩ _ _ h2)
  have OX4 : Hid (obj ((w3.setCell ⟨w.heap.size, 0, none⟩ (.pointer (some ⟨w3.heap.size, 0, none⟩))).alloc (.cells #[.pointer (some ⟨wx.heap.size, 0, none⟩), .pointer (some ⟨hb3, 0, none⟩)] 83)) w.heap.size = some (.cells #[.pointer (some ⟨w3.heap.size, 0, none⟩), .int .i64 M.cfg.room, .int .i64 M.cfg.r.first, .int .i64 M.cfg.r.min, .int .i64 M.cfg.r.max, .int .i64 M.cfg.r.half, .int .i64 M.cfg.r.quart, .int .i64 M.cfg.q.f, .int .i64 M.cfg.q.lo, .int .i64 M.cfg.q.fo, .int .i64 M.cfg.q.nu, .int .i64 M.cfg.q.de, .slice p.la M.l.length p.lc, .int .i64 M.now, .int .i64 M.wait.value, .int .i64 M.wait.at_, .slice p.sa M.seats.length p.sc, .map (some p.qm)] 86 (0, 0))) := Lib.hid ((obj_alloc_past (w3.setCell ⟨w.heap.size, 0, none⟩ (.pointer (some ⟨w3.heap.size, 0, none⟩))) (.cells #[.pointer (some ⟨wx.heap.size, 0, none⟩), .pointer (some ⟨hb3, 0, none⟩)] 83) _ (by simpa using el)).trans (obj_setCell_at (.pointer (some ⟨w3.heap.size, 0, none⟩)) (i := 0) ox3))
  have OI4 := Lib.hid (obj_alloc_at (w3.setCell ⟨w.heap.size, 0, none⟩ (.pointer (some ⟨w3.heap.size, 0, none⟩))) (.cells #[.pointer (some ⟨wx.heap.size, 0, none⟩), .pointer (some ⟨hb3, 0, none⟩)] 83) w3.heap.size (by simp))
  have bk3 := BK3.out.1.below BK3.out.2
  have hz := SZ.out
  have hz3 := G3.out.size
  have BK4 : Hid (Ak.BK ((w3.setCell ⟨w.heap.size, 0, none⟩ (.pointer (some ⟨w3.heap.size, 0, none⟩))).alloc (.cells #[.pointer (some ⟨wx.heap.size, 0, none⟩), .pointer (some ⟨hb3, 0, none⟩)] 83)) wx.heap.size (wx.heap.size + 1) M.A) := Lib.hid ⟨⟨(ob _ bk3.at_.lt (by omega)).trans bk3.at_.cells, bk3.at_.map.of_heap (ob _ bk3.at_.mlt (by omega))⟩, bk3.st.of_obj (ob _ bk3.at_.mlt (by omega)), bk3.rise⟩
  have HP4 : Hid (Al.Hp ((w3.setCell ⟨w.heap.size, 0, none⟩ (.pointer (some ⟨w3.heap.size, 0, none⟩))).alloc (.cells #[.pointer (some ⟨wx.heap.size, 0, none⟩), .pointer (some ⟨hb3, 0, none⟩)] 83)) F3 hb3 M.W) := Lib.hid (HP3.out.of_obj (by simp) fun n hn hf => ob n hn (by have := HF3.out n hf; omega))
  have HF4 : Hid (∀ n, F3 n → w2.heap.size ≤ n ∧ n < w3.heap.size) := Lib.hid (fun n hf => ⟨HF3.out n hf, HP3.out.old n hf⟩)
  have hz4 : ((w3.setCell ⟨w.heap.size, 0, none⟩ (.pointer (some ⟨w3.heap.size, 0, none⟩))).alloc (.cells #[.pointer (some ⟨wx.heap.size, 0, none⟩), .pointer (some ⟨hb3, 0, none⟩)] 83)).heap.size = w3.heap.size + 1 := by simp
  clear b4 ob bk3 HP3 HF3 BK3 BK2 G2 G3 s2 s3 SA SB ox3 e0 ez el B3 HA1 HA2 lxb lxi hxz OX SZ BX HX c0 d0 d1
  generalize ((w3.setCell ⟨w.heap.size, 0, none⟩ (.pointer (some ⟨w3.heap.size, 0, none⟩))).alloc (.cells #[.pointer (some ⟨wx.heap.size, 0, none⟩), .pointer (some ⟨hb3, 0, none⟩)] 83)) = w4 at *
  generalize hib : w3.heap.size = ib at *
  have c17 : w4.cell? ⟨b, 17, none⟩ = some (.map (some p.qm)) := (H.out.below B4.out).cells.2.2.2.2.1
  have lb4 := (H.out.below B4.out).lt
  have ez := frozen_at OX4.out
  have el := lt_of_obj OX4.out
  have e17 : w4.cell? ⟨w.heap.size, 17, none⟩ = some (.map (some p.qm)) := cell_at OX4.out 17
  have b5 : Below w.heap.size w ((w4.setCell ⟨w.heap.size, 17, none⟩ (.map (some w4.heap.size))).alloc (.map #[] 0)) := (B4.out.setCell (p := ⟨w.heap.size, 17, none⟩) (Nat.le_refl _) _).alloc (by have := B4.out.size; simpa using this) _
  have B5 := Lib.hid b5
  have ob : ∀ n, n < w4.heap.size → n ≠ w.heap.size → obj ((w4.setCell ⟨w.heap.size, 17, none⟩ (.map (some w4.heap.size))).alloc (.map #[] 0)) n = obj w4 n := fun n h1 h2 => (obj_alloc_past _ _ _ (by simpa using h1)).trans (obj_setCell_ne _ ⟨w.heap.size, 17, none⟩ _ _ h2)
  have OX5 : obj ((w4.setCell ⟨w.heap.size, 17, none⟩ (.map (some w4.heap.size))).alloc (.map #[] 0)) w.heap.size = some (.cells #[.pointer (some ⟨ib, 0, none⟩), .int .i64 M.cfg.room, .int .i64 M.cfg.r.first, .int .i64 M.cfg.r.min, .int .i64 M.cfg.r.max, .int .i64 M.cfg.r.half, .int .i64 M.cfg.r.quart, .int .i64 M.cfg.q.f, .int .i64 M.cfg.q.lo, .int .i64 M.cfg.q.fo, .int .i64 M.cfg.q.nu, .int .i64 M.cfg.q.de, .slice p.la M.l.length p.lc, .int .i64 M.now, .int .i64 M.wait.value, .int .i64 M.wait.at_, .slice p.sa M.seats.length p.sc, .map (some w4.heap.size)] 86 (0, 0)) := (obj_alloc_past _ _ _ (by simpa using el)).trans (obj_setCell_at (.map (some w4.heap.size)) (i := 17) OX4.out)
  have OQ5 : obj ((w4.setCell ⟨w.heap.size, 17, none⟩ (.map (some w4.heap.size))).alloc (.map #[] 0)) w4.heap.size = some (.map #[] 0) := obj_alloc_at _ _ _ (by simp)
  have CL := Lib.hid (cloAt (F' := F3) (U := w2.heap.size) OX5 ((ob _ (by omega) (by omega)).trans OI4.out)
    ⟨⟨(ob _ (by omega) (by omega)).trans BK4.out.at_.cells, BK4.out.at_.map.of_heap (ob _ (by omega) (by omega))⟩, BK4.out.st.of_obj (ob _ (by omega) (by omega)), BK4.out.rise⟩
    (HP4.out.of_obj (by simp) fun n hn hf => ob n (by have := HF4.out n hf; omega) (by have := HF4.out n hf; omega)) (H.out.below b5).l (H.out.below b5).seats OQ5 (by omega) (by omega) (by omega) HF4.out (by omega) (by omega) HL.out HS.out)
  clear OX5 OQ5 b5 ob OI4 BK4 HP4 HF4 HL HS q2 q3 hz hz3
  have HZ4 := Lib.hid hz4
  clear hz4
  have hmk : ∀ W : World, (Instr.makeMap 84 none).run Tryz.prog W = .ok (.map (some W.heap.size)) (W.alloc (.map #[] 0)) := fun W => by kernel_rfl
  go_wp2_with (refine wpList_rangeB (t := 84) (kt := 2) (et := 2) rfl _ rfl Tryz.underlying84 rfl (HMB.out _ B5.out) ?_; intro w6 hr6 hw6)
  try simp only [Act.put, List.setIfInBounds_toArray, List.set_cons_zero, List.set_cons_succ]
  generalize (w4.setCell ⟨w.heap.size, 17, none⟩ (.map (some w4.heap.size))).alloc (.map #[] 0) = w5 at *
  generalize hnq : w4.heap.size = nq at *
  generalize hr : w5.heap.size = r at *
  have hb6 : Below r w5 w6 ∧ w6.heap.size = r + 1 := by
    obtain ⟨s, c0, rfl⟩ := hw6
    exact ⟨by rw [← hr]; exact (Below.refl _ w5).alloc (Nat.le_refl _) _, by rw [← hr]; simp⟩
  obtain ⟨hb6, hz6⟩ := hb6
  have HR6 := Lib.hid hr6
  have hnr : nq < r := by have : nq < w5.heap.size := CL.out.1.asked.lt; omega
  have hwq : w.heap.size ≤ nq := by have := B4.out.size; omega
  have hqm : p.qm < w.heap.size := H.out.asked.lt
  have HOR : Hid (∀ n, Own F3 w.heap.size ⟨ib, wx.heap.size, wx.heap.size + 1, hb3, nq, p.la, p.lc, p.sa, p.sc⟩ n → n ≠ r) := Lib.hid (fun n hn => by have := CL.out.1.own_lt hn; omega)
  have HLA : Hid (∀ a, p.la = some a → a.block < w.heap.size) := Lib.hid (fun a e => H.out.l.blk HO.out.l (a := a) e)
  have HSA : Hid (∀ a, p.sa = some a → a.block < w.heap.size) := Lib.hid (fun a e => H.out.seats.blk HO.out.s (a := a) e)
  have PA6 := Lib.hid (CL.out.1.below (by rw [hr]; exact hb6))
  have PO := Lib.hid CL.out.2
  have B6 : Hid (Below w.heap.size w w6) := Lib.hid (B5.out.trans (hb6.mono (by omega)))
  clear hr6 hw6 hb6 B5 B4 OX4 ez el e17 c17 lb4 HMB HZ4 CL hib hnq hr hmk
  go_loopw [] (fun wr => ∃ (D todo : List (Int × Int)), Hid (PeerAt wr F3 w.heap.size ⟨ib, wx.heap.size, wx.heap.size + 1, hb3, nq, p.la, p.lc, p.sa, p.sc⟩ { M with asked := D }) ∧ Hid (RngB wr r p.qm keyI Al.intV M.asked todo) ∧ Hid (Below w.heap.size w wr) ∧ Hid ((D ++ todo).Perm M.asked)) (fun wr => leftN wr r p.qm)
  case atStart => exact ⟨[], M.asked, PA6, HR6, B6, Lib.hid (List.Perm.refl _)⟩
  case round =>
    obtain ⟨D, todo, HP, HR, HB, HPM⟩ := hrel
    by_cases h0 : todo = []
    · subst h0
      have HD : Hid (D.Perm M.asked) := Lib.hid (by have := HPM.out; rwa [List.append_nil] at this)
      go_wp2_with (refine wpList_nextB rfl _ rfl rfl HR.out (fun _ => ?_) (fun i hi => absurd hi (by simp)))
      go_ret
      exact ⟨⟨_, _, _, _, rfl, HP.out, HD.out, rfl, rfl, PO.out⟩, HB.out⟩
    · have hLM := HR.out.left
      have hrl := HR.out.lts
      have HF := Lib.hid (fun i (hi : i < todo.length) => clo_fresh HN.out HPM.out hi)
      have HLL : Hid (∀ (i : Nat) (hi : i < todo.length), (todo.eraseIdx i).length < todo.length) := Lib.hid (fun i hi => by rw [List.length_eraseIdx, if_pos hi]; omega)
      have NX := Lib.hid (fun (x1 x2 : Int) (todo2 : List (Int × Int)) (w2 : World) (hr2 : RngB w2 r p.qm keyI Al.intV M.asked todo2) (hk : Keeps (fun k => k = r) wr w2) => clo_next (p := p) (x1 := x1) (x2 := x2) rfl hqm hwq hnr HP.out hr2 HB.out hk HOR.out HLA.out HSA.out)
      go_wp2_with (refine wpList_nextB rfl _ rfl rfl HR.out (fun h => absurd h h0) ?_; intro i hi w2' hr2 hk2 hz2 hent; simp only [keyI, Al.intV] at hent ⊢; obtain ⟨hf1, hf2⟩ := HF.out i hi; have hL := HLL.out i hi; obtain ⟨es', clk', hu4, c17, lb2, hp3, hr3, hb3⟩ := NX.out (todo[i]).1 (todo[i]).2 _ w2' hr2 hk2; have HP3 := Lib.hid hp3; have HR3 := Lib.hid hr3; have HB3 := Lib.hid hb3; clear hr2 hk2 hp3 hr3 hb3 NX; generalize todo[i] = x at *; obtain ⟨x1, x2⟩ := x; simp only at hent hf1 hf2 hu4 ⊢; generalize todo.eraseIdx i = todo2 at *; clear hi HF HLL)
      have e1 : aPut x1 x2 D = D ++ [(x1, x2)] := hf1
      rw [e1] at HP3
      go_roundw
      case rel => exact ⟨D ++ [(x1, x2)], todo2, HP3, HR3, HB3, Lib.hid hf2⟩
      case measure => rw [HR3.out.left, hLM]; exact hL
end Go.Proofs.YtagpclgappcnbaaGreat
