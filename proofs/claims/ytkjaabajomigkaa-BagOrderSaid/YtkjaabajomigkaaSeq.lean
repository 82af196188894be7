import Derived.Test.YtkjaabajomigkaaRange
import Derived.Test.YtkjaabajomigkaaVote
namespace Go.Proofs.Ytkjaabajomigkaa
open Go.RowKit Go.Shelf
attribute [local go_sem] Oper.semAt_some

theorem eg49 : ∀ args w, (callFunc 49 args).run Try.prog w = .ok (.enter 49 args) w := enters_of Try.func49 (by kernel_rfl) rfl
theorem eg42 : ∀ args w, (callFunc 42 args).run Try.prog w = .ok (.enter 42 args) w := enters_of Try.func42 (by kernel_rfl) rfl
set_option maxRecDepth 100000 in
theorem mkValues (w : World) (oa : Option Addr) (len cap : Nat) : Calls Try.prog 43 #[.slice oa len cap] w fun e w' => e = .returned (.func (.func 49) #[] #[.pointer (some ⟨w.heap.size, 0, none⟩)]) ∧ w' = w.alloc (.cells #[.slice oa len cap] 22) := by
  have hmf : ∀ (fn : Fn) (first cap : Array Value) (w : World), (Instr.makeFunc fn first cap).run Try.prog w = .ok (.func fn first cap) w := fun _ _ _ _ => rfl
  go_enter Try.func43, Try.ntmps43
  go_wp2
  go_ret
  exact ⟨rfl, rfl⟩
set_option maxRecDepth 100000 in
set_option maxHeartbeats 2000000 in
/-- slices.Values's iterator: the slice's box lies at Bs -/
theorem values_seq (n : Nat) (hn : 1 ≤ n) {D : Nat → Prop} {w0 : World} (hD : ∀ k, D k → k < w0.heap.size) {Bs : Nat} {v : Value} {xs : List Vt} (hV : ValAt 22 33 vtL D w0 Bs v xs) : SeqG Fence.wide n Try.prog 49 #[.pointer (some ⟨Bs, 0, none⟩)] (fun x : Vt => #[vtV x]) xs D w0 := by
  intro l J Jx W G0 hb hJo hJ hJx hY h0
  refine callsIn_of_wp Try.func49 rfl trivial ?_ rfl
  simp only [Try.ntmps49, List.size_toArray, List.length_cons, List.length_nil, Nat.reduceAdd, Nat.reduceSub, Array.replicate_succ, Array.replicate_zero, List.push_toArray, List.append_toArray, List.nil_append, List.cons_append]
  have hVW := hV.agree hb
  have c0 : W.cell? ⟨Bs, 0, none⟩ = some v := cell_at hVW.box 0
  obtain ⟨oa, cap, rfl, q1, q2, q3⟩ := hVW.sl
  unfold maxLen at q2
  have hG0 := Lib.hid (hJo _ _ _ h0)
  have HJO := Lib.hid hJo
  have HJ := Lib.hid hJ
  have HY := Lib.hid hY
  have HV := Lib.hid hV
  have HB := Lib.hid hb
  have H0 := Lib.hid h0
  clear q3 hVW hV hJo hJ hJx hY h0 hb
  gi_wp2
  gi_loopw [7] (fun v7 wr => ∃ k : Nat, k ≤ xs.length ∧ v7 = .int .i64 k ∧ Hid (∃ G, J (xs.take k) G wr ∧ Keeps G0 W wr ∧ GrowsG W G0 G)) (fun i _ => xs.length - (intOf i).toNat)
  case atStart => exact ⟨0, Nat.zero_le _, rfl, Lib.hid ⟨G0, H0.out, Keeps.refl _ _, GrowsG.refl _ _⟩⟩
  case round =>
    obtain ⟨k, hk, rfl, HK⟩ := hrel
    obtain ⟨G, hJk, hkp, hgr⟩ := HK.out
    have hbr := HB.out.keeps hD (fun k hk => (hG0.out k hk).1) hkp
    have hVr := HV.out.agree hbr
    by_cases hlt : k < xs.length
    · obtain ⟨oa', cap', e', _, _, q3'⟩ := hVr.sl
      simp only [Value.slice.injEq] at e'
      obtain ⟨rfl, _, rfl⟩ := e'
      obtain ⟨b, off, hoa, hbb, hrow⟩ := q3' (by omega)
      subst hoa
      have hs1 := hrow k hlt
      have hmulk : off + k * 33 + 33 ≤ off + k * 33 + 33 := Nat.le_refl _
      have HTS := Lib.hid (take_snocA hlt)
      have HPX : Hid (xs.take k ++ [xs[k]] <+: xs) := Lib.hid (by rw [← take_snocA hlt]; exact List.take_prefix _ _)
      generalize xs[k] = x at *
      have ba : Below wr.heap.size wr (wr.alloc (.cells (vtL x).toArray 33)) := (Below.refl _ wr).alloc (Nat.le_refl _) _
      have o2 : obj (wr.alloc (.cells (vtL x).toArray 33)) wr.heap.size = some (.cells (vtL x).toArray 33 (0, 0)) := obj_alloc_at _ _ _ rfl
      have p2 : subOf (obj (wr.alloc (.cells (vtL x).toArray 33)) wr.heap.size) 0 33 = some (vtL x).toArray := by rw [o2, subOf_cells (by simp), subA_all (by simp)]
      have hJa := HJ.out _ _ _ _ hJk (Keeps.of_below ba)
      obtain ⟨fn, tmps, assign, body, hy, hR⟩ := HY.out _ G x _ hJa HPX.out
      simp only [vtV] at hy
      have HRR := Lib.hid hR
      have HKP := Lib.hid hkp
      have HGR := Lib.hid hgr
      have hzw : W.heap.size ≤ wr.heap.size := hkp.size
      have HJO2 := Lib.hid (HJO.out _ _ _ hJk)
      clear hrow hJk hkp hgr hbr hVr q3' hJa hR ba o2
      gi_wp2
      refine HRR.out.mono ?_
      rintro e W3 ⟨G', t, rfl, hW3, hk3, hg3⟩
      have HG3 := Lib.hid hg3
      have HK3 := Lib.hid hk3
      have H3 := Lib.hid hW3
      clear hg3 hk3 hW3 HRR hy
      have fin : Hid (Keeps G0 W W3 ∧ GrowsG W G0 G') := Lib.hid (by
        have hs3 := HK3.out.size
        have hk0 := HKP.out
        have hk3 := HK3.out
        refine ⟨?_, fun k hk => ?_⟩
        · refine ⟨hk3.os.trans hk0.os, hk3.tape.trans hk0.tape, hk3.output.trans hk0.output, Nat.le_trans hk0.size (by simp at hs3; omega), fun j hj hg => ?_⟩
          refine (hk3.block j (by simp; omega) (fun h => ?_)).trans ((obj_alloc_past _ _ _ (by omega)).trans (hk0.block j hj hg))
          rcases HGR.out j h with h | h
          · exact hg h
          · omega
        · rcases HG3.out k hk with h | h
          · exact HGR.out k h
          · exact .inr (by simp at h; omega))
      cases t
      · gi_wp2
        go_end0
        refine ⟨⟨_, rfl⟩, G', .inr ⟨_, HPX.out, ?_⟩, fin.out.1, fin.out.2⟩
        rcases H3.out with ⟨h, _⟩ | ⟨_, h⟩
        · cases h
        · exact h
      · have HJ3 : Hid (J (xs.take (k + 1)) G' W3) := Lib.hid (by
          rw [HTS.out]
          rcases H3.out with ⟨_, h⟩ | ⟨h, _⟩
          · exact h
          · cases h)
        gi_wp2
        go_roundw
        case rel => exact ⟨k + 1, by omega, by go_num, Lib.hid ⟨G', HJ3.out, fin.out.1, fin.out.2⟩⟩
        case measure => simp [intOf]; omega
    · have hk' : k = xs.length := by omega
      rw [hk', List.take_length] at hJk
      have HJ4 := Lib.hid hJk
      have HKP := Lib.hid hkp
      have HGR := Lib.hid hgr
      clear hJk hkp hgr hbr hVr
      gi_wp2
      go_end0
      exact ⟨⟨_, rfl⟩, G, .inl HJ4.out, HKP.out, HGR.out⟩
/-! ### AtLeast's iterator -/
def atF (n : Int) (xs : List Vt) : List ID := (xs.filter fun x => decide (n ≤ x.n)).map (·.id)
theorem atF_snoc (n : Int) (xs : List Vt) (x : Vt) : atF n (xs ++ [x]) = atF n xs ++ if n ≤ x.n then [x.id] else [] := by
  unfold atF
  rw [List.filter_append, List.map_append]
  congr 1
  by_cases hx : n ≤ x.n <;> simp [hx]
theorem atF_prefix (n : Int) {xs ys : List Vt} (h : xs <+: ys) : atF n xs <+: atF n ys := by
  obtain ⟨r, rfl⟩ := h
  unfold atF
  rw [List.filter_append, List.map_append]
  exact List.prefix_append _ _
def atlFrame (l sb nb : Nat) (yb : Nat) (sl : Value) (vb : Nat) (x : Vt) (c : Nat) : Act :=
  { tmps := #[.func (.yield l) #[] #[], .pointer (some ⟨sb, 0, none⟩), .pointer (some ⟨nb, 0, none⟩), .pointer (some ⟨yb, 0, none⟩), .pointer (some ⟨c, 0, none⟩), sl, .func (.func 49) #[] #[.pointer (some ⟨vb, 0, none⟩)], vtV x, undef, undef, undef, undef, undef, undef, undef, undef, undef, undef, undef], defers := [] }
set_option maxRecDepth 100000 in
set_option maxHeartbeats 2000000 in
/-- AtLeast's iterator: a range over slices.Values of the row in the box sb; so many votes in the box nb -/
theorem atl_seq (n : Nat) (hn : 4 ≤ n) {D : Nat → Prop} {w0 : World} (hD : ∀ k, D k → k < w0.heap.size) {sb nb : Nat} {m : Int} {v : Value} {xs : List Vt} (hV : ValAt 22 33 vtL D w0 sb v xs) (hnb : obj w0 nb = some (.cells #[.int .i64 m] 3 (0, 0))) (hDn : D nb) : SeqG Fence.wide n Try.prog 42 #[.pointer (some ⟨sb, 0, none⟩), .pointer (some ⟨nb, 0, none⟩)] (fun x : ID => #[idV x]) (atF m xs) D w0 := by
  intro l J Jx W G0 hb hJo hJ hJx hY h0
  refine callsIn_of_wp_marks Try.func42 rfl trivial ?_ rfl
  simp only [Try.ntmps42, List.size_toArray, List.length_cons, List.length_nil, Nat.reduceAdd, Nat.reduceSub, Array.replicate_succ, Array.replicate_zero, List.push_toArray, List.append_toArray, List.nil_append, List.cons_append]
  have hVW := hV.agree hb
  have c0 : W.cell? ⟨sb, 0, none⟩ = some v := cell_at hVW.box 0
  have onW : obj W nb = some (.cells #[.int .i64 m] 3 (0, 0)) := (hb.block nb hDn).trans hnb
  have hlb := lt_of_obj hVW.box
  have hnlt := lt_of_obj onW
  have hzW := hb.size
  have HG0 := Lib.hid (hJo _ _ _ h0)
  have HJO := Lib.hid hJo
  have HJ := Lib.hid hJ
  have HJX := Lib.hid hJx
  have HY := Lib.hid hY
  have HV := Lib.hid hVW
  have HB := Lib.hid hb
  have H0 := Lib.hid h0
  have HDN := Lib.hid hDn
  have HON := Lib.hid onW
  have HMK := fun W oa len cap => Lib.hid (mkValues W oa len cap)
  obtain ⟨oa, cap, rfl, _, _, _⟩ := hVW.sl
  clear hV hVW hJo hJ hJx hY h0 hb hnb onW hDn
  gi_wp2
  refine ⟨trivial, by first | omega | (intro _; omega), (callsIn_wide.2 (HMK _ _ _ _).out).mono ?_⟩
  rintro e w' ⟨rfl, rfl⟩
  gi_wp2
  have b2 : Below W.heap.size W ((W.alloc (.cells #[.func (.yield l) #[] #[]] 67)).alloc (.cells #[.slice oa xs.length cap] 22)) := ((Below.refl _ W).alloc (Nat.le_refl _) _).alloc (by simp) _
  have oy : obj ((W.alloc (.cells #[.func (.yield l) #[] #[]] 67)).alloc (.cells #[.slice oa xs.length cap] 22)) W.heap.size = some (.cells #[.func (.yield l) #[] #[]] 67 (0, 0)) := (obj_alloc_past _ _ _ (by simp)).trans (obj_alloc_at _ _ _ rfl)
  have ov : obj ((W.alloc (.cells #[.func (.yield l) #[] #[]] 67)).alloc (.cells #[.slice oa xs.length cap] 22)) (W.heap.size + 1) = some (.cells #[.slice oa xs.length cap] 22 (0, 0)) := obj_alloc_at _ _ _ (by simp)
  have hsz : ((W.alloc (.cells #[.func (.yield l) #[] #[]] 67)).alloc (.cells #[.slice oa xs.length cap] 22)).heap.size = W.heap.size + 2 := by simp
  generalize (W.alloc (.cells #[.func (.yield l) #[] #[]] 67)).alloc (.cells #[.slice oa xs.length cap] 22) = w2 at *
  have hV2 : ValAt 22 33 vtL (fun k => D k ∨ k = W.heap.size + 1) w2 (W.heap.size + 1) (.slice oa xs.length cap) xs := by
    refine ⟨ov, HV.out.sl.below b2, .inr rfl, fun a l c e => .inl (HV.out.dv a l c e)⟩
  have hD2 : ∀ k, (D k ∨ k = W.heap.size + 1) → k < w2.heap.size := fun k hk => by
    rcases hk with hk | rfl
    · have := hD k hk; omega
    · omega
  have on2 : obj w2 nb = some (.cells #[.int .i64 m] 3 (0, 0)) := (obj_below b2 hnlt).trans HON.out
  refine wpIn_range_own rfl (by omega) (gf := 49) (lb := #[.pointer (some ⟨W.heap.size + 1, 0, none⟩)]) rfl trivial eg49 hD2 (values_seq (n - 1) (by omega) hD2 hV2) (Agree.refl _ _) (fun _ => rfl)
    (fun pre G W' => J (atF m pre) G W' ∧ obj W' W.heap.size = some (.cells #[.func (.yield l) #[] #[]] 67 (0, 0)) ∧ ¬ G W.heap.size ∧ ¬ G (W.heap.size + 1) ∧ w2.heap.size ≤ W'.heap.size ∧ obj W' nb = some (.cells #[.int .i64 m] 3 (0, 0)))
    (fun c pre G W' => c = .ret ∧ Jx (atF m pre) G W') ?hIo ?hI ?hIx G0 ?h0
    (fun x a' W' => ∃ c, obj W' c = some (.cells (vtL x).toArray 33 (0, 0)) ∧ a' = atlFrame l sb nb W.heap.size (.slice oa xs.length cap) (W.heap.size + 1) x c)
    ?hAx ?assign ?body ?done ?stop
  case hIo =>
    rintro pre G W' ⟨hj, _, _, hn1, _⟩ k hk
    obtain ⟨h1, h2⟩ := HJO.out _ _ _ hj k hk
    exact ⟨fun h => by rcases h with h | rfl; exact h1 h; exact hn1 hk, h2⟩
  case hI =>
    rintro pre G W1 W' ⟨hj, hy, n1, n2, hz, hno⟩ hk
    exact ⟨HJ.out _ _ _ _ hj (hk.mono fun k hk => ⟨by omega, hk.2⟩), (hk.block _ (lt_of_obj hy) (fun h => by omega)).trans hy, n1, n2, Nat.le_trans hz hk.size, (hk.block _ (lt_of_obj hno) (fun h => by omega)).trans hno⟩
  case hIx =>
    rintro c pre G W1 W' ⟨rfl, hj⟩ hk
    exact ⟨rfl, HJX.out _ _ _ _ hj (hk.mono fun k hk => ⟨by omega, hk.2⟩)⟩
  case h0 =>
    exact ⟨HJ.out _ _ _ _ H0.out (Keeps.of_below b2), oy, fun h => by have := (HG0.out _ h).2; omega, fun h => by have := (HG0.out _ h).2; omega, Nat.le_refl _, on2⟩
  case hAx =>
    rintro x a' W r o o' ⟨c, h1, h2⟩ ho hc
    exact ⟨c, ax_put h1 ho hc, h2⟩
  case assign =>
    rintro l' pre G x W' K _ hK
    have HK := Lib.hid hK
    clear hK
    gi_wp2
    exact HK.out _ _ ((Below.refl _ W').alloc (Nat.le_refl _) _) ⟨W'.heap.size, obj_alloc_at _ _ _ rfl, rfl⟩
  case body =>
    rintro l' pre G x a' W' hl hlw hnl ⟨hj, hy, n1, n2, hz, hno⟩ ⟨c, hc, rfl⟩ hpre
    have hcz := lt_of_obj hc
    have cy : W'.cell? ⟨W.heap.size, 0, none⟩ = some (.func (.yield l) #[] #[]) := cell_at hy 0
    have cn : W'.cell? ⟨nb, 0, none⟩ = some (.int .i64 m) := cell_at hno 0
    obtain ⟨p1, p2⟩ := vt_parts (x := x) (W := W') (b := c) (o := 0) (by rw [hc, subOf_cells (by simp), subA_all (by simp)])
    rw [Nat.zero_add] at p2
    have HS := Lib.hid (atF_snoc m pre x)
    have HYY := Lib.hid hy
    have HNO := Lib.hid hno
    have HJJ := Lib.hid (HJO.out _ _ _ hj)
    by_cases hx : m ≤ x.n
    · have dx : decide (m ≤ x.n) = true := by simpa using hx
      rw [if_pos hx] at HS
      obtain ⟨fn, tmps, assign, body, hyy, hR⟩ := HY.out (atF m pre) G x.id W' hj (by rw [← HS.out]; exact atF_prefix m hpre)
      simp only [idV] at hyy
      have HRR := Lib.hid hR
      clear hR hy hj hno hx
      simp only [atlFrame, vtV]
      gi_wp2
      refine ⟨fun _ => by omega, RoundIn.mono (F := Fence.wide.inRound l') (RoundIn.wide HRR.out) ?_⟩
      rintro e W3 ⟨G', t, rfl, hW3, hk3, hg3⟩
      have HK3 := Lib.hid hk3
      have HG3 := Lib.hid hg3
      have H3 := Lib.hid hW3
      have hz3 := hk3.size
      have hyz := lt_of_obj HYY.out
      have m1 : ¬ G' W.heap.size := fun h => by
        rcases hg3 _ h with h | h
        · exact n1 h
        · omega
      have m2 : ¬ G' (W.heap.size + 1) := fun h => by
        rcases hg3 _ h with h | h
        · exact n2 h
        · omega
      have oy3 := Lib.hid ((hk3.block _ hyz n1).trans HYY.out)
      have on3 := Lib.hid ((hk3.block _ (lt_of_obj HNO.out) (fun h => (HJJ.out nb h).1 HDN.out)).trans HNO.out)
      clear hk3 hg3 hW3 HRR hyy
      cases t
      · have HX3 : Hid (Jx (atF m (pre ++ [x])) G' W3) := Lib.hid (by
          rw [HS.out]
          rcases H3.out with ⟨h, _⟩ | ⟨_, h⟩
          · cases h
          · exact h)
        gi_wp2
        exact ⟨G', ⟨rfl, HX3.out⟩, HK3.out, HG3.out⟩
      · have HJ3 : Hid (J (atF m (pre ++ [x])) G' W3) := Lib.hid (by
          rw [HS.out]
          rcases H3.out with ⟨_, h⟩ | ⟨h, _⟩
          · exact h
          · cases h)
        gi_wp2
        exact ⟨G', ⟨HJ3.out, oy3.out, m1, m2, by omega, on3.out⟩, HK3.out, HG3.out⟩
    · have dx : decide (m ≤ x.n) = false := by simpa using hx
      rw [if_neg hx, List.append_nil] at HS
      have HJ3 : Hid (J (atF m (pre ++ [x])) G W') := Lib.hid (by rw [HS.out]; exact hj)
      clear hy hj hno hx
      simp only [atlFrame, vtV]
      gi_wp2
      rename_i hKK _ _ _ _
      refine ⟨(fun f hf => (by cases hf)), hKK _ _ ?_⟩
      clear hKK
      gi_wp2
      exact ⟨G, ⟨HJ3.out, HYY.out, n1, n2, by omega, HNO.out⟩, Keeps.refl _ _, GrowsG.refl _ _⟩
  case done =>
    rintro d G W' hd hnd ⟨hj, hy, n1, n2, hz, hno⟩ hk hg hK
    have HK := Lib.hid hk
    have HG := Lib.hid hg
    have HJ4 := Lib.hid hj
    have HJO4 := Lib.hid (HJO.out _ _ _ hj)
    clear hk hg hj
    gi_wp2
    refine ⟨by simp, .inl ⟨_, _, rfl, run_takeDeferred hK, ?_⟩⟩
    exact ⟨_, results_none rfl _ _ _, endG_put HJ.out HJX.out (by omega) (by omega) hnd (.inl HJ4.out) b2 HK.out HG.out _⟩
  case stop =>
    rintro d c pre G W' hd hnd hpre ⟨rfl, hj⟩ hk hg hK
    have HK := Lib.hid hk
    have HG := Lib.hid hg
    have HJ4 := Lib.hid hj
    have HP4 := Lib.hid (atF_prefix m hpre)
    clear hk hg hj
    gi_wp2
    refine ⟨by simp, .inl ⟨_, _, rfl, run_takeDeferred hK, ?_⟩⟩
    exact ⟨_, results_none rfl _ _ _, endG_put HJ.out HJX.out (by omega) (by omega) hnd (.inr ⟨_, HP4.out, HJ4.out⟩) b2 HK.out HG.out _⟩
end Go.Proofs.Ytkjaabajomigkaa
