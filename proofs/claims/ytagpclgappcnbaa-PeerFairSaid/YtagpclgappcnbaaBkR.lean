import Derived.Test.YtagpclgappcnbaaBkV
import Derived.Test.YtagpclgappcnbaaBkS
namespace Go.Proofs.Ytagpclgappcnbaa
open Go.RowKit
theorem som_ok : Me.RuleOk som.r := by unfold Me.RuleOk som; simp
theorem som_pchk : pchkE som = 0 := by
  have h : mchk som.r = 0 := by unfold mchk; rw [if_pos som_ok]
  unfold pchkE
  rw [h]
  decide
theorem thr_chk : Be.chk thr = 0 := by kernel_rfl
theorem som_new : newE som thr 0 = 0 := by unfold newE; rw [som_pchk, thr_chk]; decide
def P0 : PM := ⟨som, thr, 0, ⟨57, 0⟩, [⟨0, 0, 0⟩, ⟨0, 0, 0⟩, ⟨0, 0, 0⟩], [], ⟨9, 0, [], 0, 0, 0⟩, []⟩
def P1 : PM := ⟨som, thr, 0, ⟨57, 0⟩, [⟨0, 0, 0⟩, ⟨0, 0, 0⟩, ⟨0, 0, 0⟩], [(1, 0)], ⟨9, 1, [(1, ⟨1, 1, 7⟩)], 1, 0, 0⟩, [(8, 1)]⟩
def P2 : PM := ⟨som, thr, 2, ⟨38, 2⟩, [⟨0, 0, 0⟩, ⟨0, 0, 0⟩, ⟨0, 0, 0⟩], [], ⟨9, 1, [], 1, 1, 0⟩, []⟩
def P3 : PM := ⟨som, thr, 2, ⟨38, 2⟩, [⟨0, 0, 0⟩, ⟨0, 0, 0⟩, ⟨0, 0, 0⟩], [(2, 2)], ⟨9, 2, [(2, ⟨2, 1, 7⟩)], 2, 1, 0⟩, [(7, 2)]⟩
def P4 : PM := ⟨som, thr, 6, ⟨38, 2⟩, [⟨0, 0, 0⟩, ⟨0, 0, 0⟩, ⟨0, 0, 0⟩], [(2, 2)], ⟨9, 2, [(2, ⟨2, 1, 7⟩)], 2, 1, 0⟩, [(7, 2)]⟩
theorem e0 : newM som thr 0 = P0 := by kernel_rfl
theorem t0 : Me.tmoR som.r ⟨57, 0⟩ = 8 := by
  unfold Me.tmoR
  rw [if_pos ⟨som_ok, by simp [som]⟩]
  kernel_rfl
theorem t2 : Me.tmoR som.r ⟨38, 2⟩ = 5 := by
  unfold Me.tmoR
  rw [if_pos ⟨som_ok, by simp [som]⟩]
  kernel_rfl
theorem e1 : askP P0 1 7 0 = (P1, 1, false, 0) := by
  have hat : askAt P0 0 = 8 := by unfold askAt; show min (IntKind.i64.wrap (0 + Me.tmoR som.r ⟨57, 0⟩)) _ = _; rw [t0]; kernel_rfl
  unfold askP
  rw [hat]
  rfl
theorem e2 : gotP P1 1 1 8 2 = (P2, ⟨1, 1, 7⟩, 0) := by
  have hb : Me.obsR som.r ⟨57, 0⟩ 2 2 = (⟨38, 2⟩, 0) := by
    unfold Me.obsR
    rw [if_pos ⟨som_ok, by simp [som]⟩, if_pos (by decide)]
    rfl
  have ho : tookO { P1 with now := 2, A := Ak.ansS P1.A 1 1 8, W := Al.dropW P1.W 1 } 1 = (⟨38, 2⟩, 0) := by
    rw [← hb]; rfl
  unfold gotP gotM tookM
  rw [ho]
  rfl
theorem e3 : (askP P2 1 7 2).1 = P3 := by
  have hat : askAt P2 2 = 7 := by unfold askAt; show min (IntKind.i64.wrap (2 + Me.tmoR som.r ⟨38, 2⟩)) _ = _; rw [t2]; kernel_rfl
  unfold askP
  rw [hat]
  rfl
theorem e4 : tickP P3 6 = (P4, [], 0) := by unfold tickP; rfl
theorem e5 : (tickP P4 7).2 = ([⟨2, 1, 7⟩], 0) := by unfold tickP; rfl
theorem keepsX {w W : World} {B : Nat} (h : Keeps (fun n => ¬ n < B) w W) (hB : B ≤ w.heap.size) : Below B w W := h.below (fun _ hk => by omega) hB
set_option maxRecDepth 100000 in
set_option maxHeartbeats 2000000 in
theorem begun_any (w : World) : Calls Try.prog 7 #[] w fun e w' => e = .returned (.bool true) ∧ Below w.heap.size w w' := by
  have HT := Lib.hid (fun W => three_any W)
  have HS := Lib.hid (fun W => some_any W)
  have HN := Lib.hid (fun W v h => new_bk W som v thr 0 h (by decide))
  rw [som_new, e0] at HN
  generalize hc : cfgC som = cs at *
  clear hc
  go_enter Try.func7, Try.ntmps7
  go_wp2_with fail
  refine (HS.out w).mono ?_
  rintro e w1 ⟨rfl, b1⟩
  go_wp2_with fail
  refine (HT.out w1).mono ?_
  rintro e w2 ⟨v, rfl, sl2, b2⟩
  have B2 := Lib.hid (b1.trans (b2.mono b1.size))
  have SL := Lib.hid sl2
  obtain ⟨oav, capv, ev, -⟩ := sl2
  subst ev
  clear b1 b2
  go_wp2_with fail
  refine (HN.out w2 _ SL.out).mono ?_
  rintro e w3 ⟨b3, -, h3⟩
  obtain ⟨b, rfl, hb3⟩ := h3 trivial
  have B3 := Lib.hid (B2.out.trans (b3.mono B2.out.size))
  have K3 := Lib.hid (hb3.mono (Y := fun n => n < w.heap.size) fun n hn => Nat.lt_of_lt_of_le hn B2.out.size)
  clear b3 h3 hb3 B2 SL HN HT HS
  have HA := Lib.hid (ask_bk w3 _ b P0 1 7 0 K3.out)
  rw [e1] at HA
  go_wp2_with fail
  refine HA.out.mono ?_
  rintro e w4 ⟨rfl, h4, k4⟩
  have K4 := Lib.hid h4
  have B4 := Lib.hid (B3.out.trans (keepsX k4 B3.out.size))
  clear h4 k4 HA B3 K3
  have HG := Lib.hid (got_bk w4 _ b P1 1 1 8 2 K4.out)
  rw [e2] at HG
  go_wp2_with fail
  refine HG.out.mono ?_
  rintro e w5 ⟨rfl, h5, k5⟩
  have B5 := Lib.hid (B4.out.trans (keepsX k5 B4.out.size))
  have b6 : Below w5.heap.size w5 (w5.alloc (.cells #[.int .i64 1, .int .i64 1, .int .i64 7] 47)) := (Below.refl _ _).alloc (Nat.le_refl _) _
  have K6 := Lib.hid (h5.below b6)
  have B6 := Lib.hid (B5.out.trans (b6.mono B5.out.size))
  have O6 := Lib.hid (show obj (w5.alloc (.cells #[.int .i64 1, .int .i64 1, .int .i64 7] 47)) w5.heap.size = some (.cells #[.int .i64 1, .int .i64 1, .int .i64 7] 47 (0, 0)) from obj_alloc_at _ _ _ rfl)
  have HTM := Lib.hid (fun W hW => timeout_bk W _ b P2 (K6.out.below hW))
  rw [show P2.cfg.r = som.r from rfl, show P2.wait = ⟨38, 2⟩ from rfl, t2] at HTM
  clear h5 k5 b6 HG B4 K4 B5
  simp only [Ak.askV]
  go_wp2_with fail
  generalize w5.alloc (.cells #[.int .i64 1, .int .i64 1, .int .i64 7] 47) = w6 at *
  generalize w5.heap.size = xb at *
  refine (HTM.out _ (Below.refl _ _)).mono ?_
  rintro e w7 ⟨rfl, b7⟩
  have K7 := Lib.hid (K6.out.below b7)
  have B7 := Lib.hid (B6.out.trans (b7.mono B6.out.size))
  clear b7 HTM K6 B6 O6
  have HA := Lib.hid (ask_bk w7 _ b P2 1 7 2 K7.out)
  rw [e3] at HA
  go_wp2_with fail
  refine HA.out.mono ?_
  rintro e w8 ⟨rfl, h8, k8⟩
  have K8 := Lib.hid h8
  have B8 := Lib.hid (B7.out.trans (keepsX k8 B7.out.size))
  clear h8 k8 HA B7 K7
  have HK := Lib.hid (tick_bk w8 _ b P3 6 K8.out)
  rw [e4] at HK
  go_wp2_with fail
  refine HK.out.mono ?_
  rintro e w9 ⟨xv, rfl, o9, h9, k9⟩
  have K9 := Lib.hid h9
  have B9 := Lib.hid (B8.out.trans (keepsX k9 B8.out.size))
  obtain ⟨oax, capx, ex⟩ := o9.slice
  subst ex
  clear h9 k9 HK B8 K8 o9
  have HK := Lib.hid (tick_bk w9 _ b P4 7 K9.out)
  rw [e5] at HK
  go_wp2_with fail
  refine HK.out.mono ?_
  rintro e w10 ⟨yv, rfl, o10, -, k10⟩
  have B10 := Lib.hid (B9.out.trans (keepsX k10 B9.out.size))
  have O10 := Lib.hid o10
  obtain ⟨oay, capy, ey⟩ := o10.slice
  subst ey
  clear k10 HK B9 K9 o10
  have hrow := hide_row50 ⟨2, 1, 7⟩ w10
  have b11 : Below w10.heap.size w10 (w10.alloc (.cells #[.int .i64 2, .int .i64 1, .int .i64 7] 47)) := (Below.refl _ _).alloc (Nat.le_refl _) _
  have S11 : SlIn (w10.alloc (.cells #[.int .i64 2, .int .i64 1, .int .i64 7] 47)) (.slice (some ⟨w10.heap.size, 0, none⟩) 1 1) 3 akL [⟨2, 1, 7⟩] := SlIn.of_cells (E := 47) (fr := (0, 0)) akL_length [⟨2, 1, 7⟩] (by exact obj_alloc_at _ _ _ rfl) (by simp [maxLen])
  have HE := Lib.hid (equalA _ _ _ _ _ ((O10.out.slIn akL_length).below b11) S11)
  have B11 := Lib.hid (B10.out.trans (b11.mono B10.out.size))
  simp only [decide_true] at HE
  clear b11 S11
  go_wp2_with fail
  refine HE.out.mono ?_
  rintro e w12 ⟨rfl, b12⟩
  have B12 := Lib.hid (B11.out.trans (b12.mono B11.out.size))
  clear b12
  go_wp2_with fail
  go_ret
  exact ⟨rfl, B12.out⟩
end Go.Proofs.Ytagpclgappcnbaa
