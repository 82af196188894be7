import Derived.Test.YtfejhekoijemdaaRpAB
import Derived.Test.YtfejhekoijemdaaCmp
import Derived.LoopTactic
import Derived.BigQuiet
namespace Go.Proofs.Ytfejhekoijemdaa
open Go.RowKit

/-! ### flurryref02.Compare, add -/
theorem cmpI_lt {a b : ID} (h : ltI a b = true) : cmpI a b = -1 := by unfold cmpI; rw [if_pos h]
theorem cmpI_gt {a b : ID} (h : ltI b a = true) : cmpI a b = 1 := by
  unfold cmpI
  rw [if_neg (by rw [ltI_asymm h]; decide), if_neg (fun e => ltI_ne h e.symm)]
theorem cmpI_eq (a : ID) : cmpI a a = 0 := by
  unfold cmpI
  rw [if_neg (by rw [ltI_irrefl]; decide), if_pos rfl]
set_option maxRecDepth 100000 in
set_option maxHeartbeats 2000000 in
theorem rcmp_any (w : World) (a b : ID) : Calls Try.prog 68 #[.agg (idL a).toArray, .agg (idL b).toArray] w fun e w' => e = .returned (.int .i64 (cmpI a b)) ∧ Below w.heap.size w w' := by
  have o1 : obj ((w.alloc (.cells (idL a).toArray 37)).alloc (.cells (idL b).toArray 37)) w.heap.size = some (.cells (idL a).toArray 37 (0, 0)) := (obj_alloc_past _ _ _ (by simp)).trans (obj_alloc_at _ _ _ rfl)
  have o2 : obj ((w.alloc (.cells (idL a).toArray 37)).alloc (.cells (idL b).toArray 37)) (w.heap.size + 1) = some (.cells (idL b).toArray 37 (0, 0)) := obj_alloc_at _ _ _ (by simp)
  have hb : Below w.heap.size w ((w.alloc (.cells (idL a).toArray 37)).alloc (.cells (idL b).toArray 37)) := ((Below.refl _ w).alloc (Nat.le_refl _) _).alloc (by simp) _
  go_enter Try.func68, Try.ntmps68
  go_wp2
  generalize (w.alloc (.cells (idL a).toArray 37)).alloc (.cells (idL b).toArray 37) = w2 at *
  have O1 := Lib.hid o1
  have O2 := Lib.hid o2
  have B2 := Lib.hid hb
  clear o1 o2 hb
  go_loopw [5] (fun v5 wr => ∃ k : Nat, k ≤ 32 ∧ v5 = .int .i64 k ∧ Hid (ltL (a.l.drop k) (b.l.drop k) = ltI a b) ∧ Hid (ltL (b.l.drop k) (a.l.drop k) = ltI b a) ∧ Hid (∃ n, wr = w2.drewN n)) (fun i _ => 32 - (intOf i).toNat)
  case atStart => exact ⟨0, Nat.zero_le _, rfl, Lib.hid rfl, Lib.hid rfl, Lib.hid ⟨0, rfl⟩⟩
  case round =>
    obtain ⟨k, hk, rfl, HF, HF2, HW⟩ := hrel
    obtain ⟨n, hn⟩ := HW.out
    subst hn
    have hF := HF.out
    have hF2 := HF2.out
    by_cases hlt : k < 32
    · have hka : k < a.l.length := by rw [a.h]; exact hlt
      have hkb : k < b.l.length := by rw [b.h]; exact hlt
      rw [List.drop_eq_getElem_cons hka, List.drop_eq_getElem_cons hkb] at hF hF2
      have c1 : w2.cell? ⟨w.heap.size, k, none⟩ = some (.int .u8 (a.l[k].toNat : Int)) := by rw [cell_at O1.out, List.getElem?_toArray, idL_get a hlt]
      have c2 : w2.cell? ⟨w.heap.size + 1, k, none⟩ = some (.int .u8 (b.l[k].toNat : Int)) := by rw [cell_at O2.out, List.getElem?_toArray, idL_get b hlt]
      have hk32 : (k : Int) < 32 := by omega
      generalize a.l[k] = x at *
      generalize b.l[k] = y at *
      by_cases hxy : x = y
      · subst hxy
        have hc : ltL (x :: a.l.drop (k + 1)) (x :: b.l.drop (k + 1)) = ltL (a.l.drop (k + 1)) (b.l.drop (k + 1)) := if_pos rfl
        have hc2 : ltL (x :: b.l.drop (k + 1)) (x :: a.l.drop (k + 1)) = ltL (b.l.drop (k + 1)) (a.l.drop (k + 1)) := if_pos rfl
        rw [hc] at hF
        rw [hc2] at hF2
        have HG := Lib.hid hF
        have HG2 := Lib.hid hF2
        clear hF HF hc hka hkb hF2 HF2 hc2
        go_wp2
        go_quiet (fail)
        go_wp2
        go_quiet (fail)
        go_wp2
        go_roundw
        case rel => exact ⟨k + 1, by omega, by go_num, HG, HG2, Lib.hid ⟨_, rfl⟩⟩
        case measure => simp [intOf]; omega
      · have hc : ltL (x :: a.l.drop (k + 1)) (y :: b.l.drop (k + 1)) = decide (x < y) := if_neg hxy
        have hc2 : ltL (y :: b.l.drop (k + 1)) (x :: a.l.drop (k + 1)) = decide (y < x) := if_neg (fun e => hxy e.symm)
        rw [hc] at hF
        rw [hc2] at hF2
        rcases UInt8.lt_or_lt_of_ne hxy with hl | hl
        · have HR : Hid (cmpI a b = -1) := Lib.hid (cmpI_lt (by rw [← hF]; simpa using hl))
          have d1 : (x.toNat : Int) < y.toNat := by have := UInt8.lt_iff_toNat_lt.1 hl; omega
          clear hF HF hc hka hkb hF2 HF2 hc2 hl hxy
          go_wp2
          go_quiet (fail)
          go_wp2
          go_ret
          exact ⟨by rw [HR.out]; rfl, below_drewN (below_drewN B2.out _) _⟩
        · have HR : Hid (cmpI a b = 1) := Lib.hid (cmpI_gt (by rw [← hF2]; simpa using hl))
          have d1 : (y.toNat : Int) < x.toNat := by have := UInt8.lt_iff_toNat_lt.1 hl; omega
          have d2 : ¬ (x.toNat : Int) < y.toNat := by omega
          clear hF HF hc hka hkb hF2 HF2 hc2 hl hxy
          go_wp2
          go_quiet (fail)
          go_wp2
          go_quiet (fail)
          go_wp2
          go_ret
          exact ⟨by rw [HR.out]; rfl, below_drewN (below_drewN (below_drewN B2.out _) _) _⟩
    · have hk' : k = 32 := by omega
      subst hk'
      have h1 : a.l.drop 32 = [] := List.drop_eq_nil_of_le (by rw [a.h]; exact Nat.le_refl _)
      have h2 : b.l.drop 32 = [] := List.drop_eq_nil_of_le (by rw [b.h]; exact Nat.le_refl _)
      rw [h1, h2] at hF hF2
      have HR : Hid (cmpI a b = 0) := Lib.hid (by
        rcases ltI_total a b with h | h | h
        · rw [h] at hF; cases hF
        · subst h; exact cmpI_eq a
        · rw [h] at hF2; cases hF2)
      clear hF HF hF2 HF2
      go_wp2
      go_ret
      exact ⟨by rw [HR.out]; rfl, below_drewN B2.out _⟩
/-! ### takes: a validator's slots are left no more -/
def fl0 (v : Int) (o : OneM) (k : Nat) (sl : List Int) (j : Nat) (h : j < sl.length) : Bool := if j < k ∧ sl[j] = v then false else keyIn o sl[j]
set_option maxRecDepth 100000 in
set_option maxHeartbeats 4000000 in
theorem rtakes_any (w : World) (G : Nat → Prop) (q : PB) (o : OneM) (sl : List Int) (v : Int) (h : RPollW w G q o sl) (ok : OneOK o) (hl : sl.length ≤ 64) : Calls Try.prog 60 #[.pointer (some ⟨q.p, 0, none⟩), .int .i64 v] w fun e w' => e = .returned (.int .i64 (cntI v sl)) ∧ RPollW w' G q (takeO v o) sl ∧ Keeps (fun n => n = q.fb) w w' := by
  have HH := Lib.hid h
  have HOK := Lib.hid ok
  obtain ⟨-, c1, c2, -⟩ := h.cells
  obtain ⟨oa, cap, e, g1, g2, g3⟩ := h.so.slIn intL_length
  rw [e] at c1
  have H3 := Lib.hid g3
  have HE := Lib.hid e
  unfold maxLen at g2
  have hpf : q.p ≠ q.fb := fun hh => by
    obtain ⟨cur, h1, _⟩ := h.fl
    have := h.box
    rw [hh, h1] at this
    simp at this
  have HSB : Hid (∀ b off, oa = some ⟨b, off, none⟩ → b ≠ q.fb) := Lib.hid (fun b off hh hb => by
    obtain ⟨cur, h1, _⟩ := h.fl
    refine h.so.ne h1 (fun cur' hc => by cases hc) ?_
    rw [e, hh, hb]
    rfl)
  have lq := lt_of_obj h.box
  have lf := h.flt
  obtain ⟨f1, f2⟩ := h.fc
  unfold maxLen at f2
  obtain ⟨cur0, o0, hc0⟩ := h.fl
  clear h g3 e ok
  have K0 : Hid (Keeps (fun n => n = q.fb) w w) := Lib.hid (Keeps.refl _ _)
  have F0 : Hid (∃ cur, obj w q.fb = some (.cells cur 4 (0, 0)) ∧ ∀ (j : Nat) (h : j < sl.length), cur[j]? = some (.bool (fl0 v o 0 sl j h))) := Lib.hid ⟨cur0, o0, fun j hj => by rw [hc0 j hj]; unfold fl0; rw [if_neg (by omega)]⟩
  clear o0 hc0
  go_enter Try.func60, Try.ntmps60
  go_wp2_with fail
  go_loopw [5, 6] (fun v5 v6 wr => ∃ k : Nat, k ≤ sl.length ∧ v6 = .int .i64 k ∧ v5 = .int .i64 (cntI v (sl.take k)) ∧ Hid (Keeps (fun n => n = q.fb) w wr) ∧ Hid (∃ cur, obj wr q.fb = some (.cells cur 4 (0, 0)) ∧ ∀ (j : Nat) (h : j < sl.length), cur[j]? = some (.bool (fl0 v o k sl j h)))) (fun _ i _ => sl.length - (intOf i).toNat)
  case atStart => exact ⟨0, Nat.zero_le _, rfl, rfl, K0, F0⟩
  case round =>
    obtain ⟨k, hk, rfl, rfl, HK, HF⟩ := hrel
    clear K0 F0 c1 c2
    obtain ⟨cur, of, hf⟩ := HF.out
    have HFF := Lib.hid hf
    have OF := Lib.hid of
    have ob := (HK.out.block _ lq (fun hh => hpf hh)).trans HH.out.box
    have c1 : wr.cell? ⟨q.p, 1, none⟩ = some (.slice oa sl.length cap) := by rw [cell_at ob 1, ← HE.out]; rfl
    have c2 : wr.cell? ⟨q.p, 2, none⟩ = some (.slice (some ⟨q.fb, 0, none⟩) sl.length q.fc) := cell_at ob 2
    have lqr := lt_of_obj ob
    have lfr := lt_of_obj of
    have hc1 := cntI_nn v (sl.take k)
    have hc2 := cntI_le v (sl.take k)
    have hkl : (sl.take k).length ≤ 64 := by simp; omega
    clear ob of hf
    by_cases hlt : k < sl.length
    · obtain ⟨b, off, rfl, hbb, hrow⟩ := H3.out (by omega)
      have hs := hrow k hlt
      have hbf := HSB.out b off rfl
      rw [← HK.out.block b hbb (fun hh => hbf hh)] at hs
      have hbr : b < wr.heap.size := Nat.lt_of_lt_of_le hbb HK.out.size
      have cs : wr.cell? ⟨b, off + k, none⟩ = some (.int .i64 sl[k]) := by have := subOf_cell hs (j := 0) (by decide); simpa [intL] using this
      have ht := cntI_take (v := v) hlt
      clear hrow hs
      have hki : (k : Int) < sl.length := by omega
      have fk : wr.cell? ⟨q.fb, k, none⟩ = some (.bool (fl0 v o k sl k hlt)) := by rw [cell_at OF.out]; exact HFF.out k hlt
      have ff := frozen_at OF.out
      by_cases he : sl[k] = v
      · rw [if_pos he] at ht
        have hw : IntKind.i64.wrap (cntI v (sl.take k) + 1) = cntI v (sl.take (k + 1)) := by rw [ht]; simp [IntKind.wrap, IntKind.signed, IntKind.bits]; omega
        have NF : Hid (∃ cur', obj (wr.setCell ⟨q.fb, k, none⟩ (.bool false)) q.fb = some (.cells cur' 4 (0, 0)) ∧ ∀ (j : Nat) (h : j < sl.length), cur'[j]? = some (.bool (fl0 v o (k + 1) sl j h))) := Lib.hid ⟨_, obj_setCell_at (.bool false) (i := k) OF.out, fun j hj => by
          rw [Array.getElem?_setIfInBounds]
          by_cases e : k = j
          · subst e
            have h9 := HFF.out k hj
            have h8 : k < cur.size := (Array.getElem?_eq_some_iff.1 h9).1
            rw [if_pos rfl, if_pos h8]
            unfold fl0
            rw [if_pos ⟨by omega, he⟩]
          · rw [if_neg e, HFF.out j hj]
            unfold fl0
            congr 2
            by_cases h7 : j < k ∧ sl[j] = v
            · rw [if_pos h7, if_pos ⟨by omega, h7.2⟩]
            · rw [if_neg h7, if_neg (fun hh => h7 ⟨by omega, hh.2⟩)]⟩
        have NK : Hid (Keeps (fun n => n = q.fb) w (wr.setCell ⟨q.fb, k, none⟩ (.bool false))) := Lib.hid (HK.out.setCell (a := ⟨q.fb, k, none⟩) (.inl rfl) _)
        subst he
        clear ht hc1 hc2 hkl HFF OF
        go_wp2_with fail
        go_roundw
        case rel => exact ⟨k + 1, by omega, by go_num, rfl, NK, NF⟩
        case measure => simp [intOf]; omega
      · rw [if_neg he] at ht
        have he' : (sl[k] == v) = false := by simpa using he
        have NF : Hid (∃ cur', obj wr q.fb = some (.cells cur' 4 (0, 0)) ∧ ∀ (j : Nat) (h : j < sl.length), cur'[j]? = some (.bool (fl0 v o (k + 1) sl j h))) := Lib.hid ⟨cur, OF.out, fun j hj => by
          rw [HFF.out j hj]
          unfold fl0
          congr 2
          by_cases h7 : j < k ∧ sl[j] = v
          · rw [if_pos h7, if_pos ⟨by omega, h7.2⟩]
          · rw [if_neg h7, if_neg (fun hh => h7 ⟨by
              have : j ≠ k := fun e => he (by subst e; exact hh.2)
              omega, hh.2⟩)]⟩
        have HT : Hid (cntI v (sl.take (k + 1)) = cntI v (sl.take k)) := Lib.hid (by rw [ht]; omega)
        generalize sl[k] = s at *
        clear ht hc1 hc2 hkl HFF OF
        go_wp2_with fail
        go_roundw
        case rel => exact ⟨k + 1, by omega, by go_num, by rw [HT.out], HK, NF⟩
        case measure => simp [intOf]; omega
    · obtain rfl : sl.length = k := by omega
      have hk2 : ¬ (sl.length : Int) < sl.length := by omega
      rw [List.take_length]
      have FIN : Hid (RPollW wr G q (takeO v o) sl) := Lib.hid (by
        have hx := HH.out
        have q1 : ∀ n, n < w.heap.size → n ≠ q.fb → obj wr n = obj w n := fun n h1 h2 => HK.out.block n h1 h2
        obtain ⟨cur0, o0, -⟩ := hx.fl
        refine ⟨(q1 _ (lt_of_obj hx.box) hpf).trans hx.box, hx.so.keeps fun g eg => q1 g (hx.so.1.lt g eg).2 (fun hh => hx.so.ne o0 (fun cur' hc => by cases hc) (by rw [eg, hh])), ⟨cur, OF.out, fun j hj => ?_⟩, hx.fc, hx.vt.keeps fun g eg => q1 g (hx.vt.1.lt g eg).2 (fun hh => hx.vt.ne o0 (fun cur' hc => by cases hc) (by rw [eg, hh])), hx.gp, hx.gf, hx.gs, hx.gv⟩
        rw [HFF.out j hj, keyIn_take HOK.out]
        unfold fl0
        congr 2
        by_cases h7 : sl[j] = v
        · rw [if_pos ⟨hj, h7⟩, if_pos h7]
        · rw [if_neg (fun hh => h7 hh.2), if_neg h7])
      clear hc1 hc2 hkl
      go_wp2_with fail
      go_ret
      exact ⟨rfl, FIN.out, HK.out⟩
end Go.Proofs.Ytfejhekoijemdaa
namespace Go.Proofs.Ytfejhekoijemdaa
open Go.RowKit

/-! ### add -/
structure AddI (id : ID) (n : Int) (l : List Vt) (k : Nat) (out : List Vt) (put : Bool) : Prop where
  no : put = false → out = l.take k ∧ ∀ (j : Nat) (h : j < l.length), j < k → ltI l[j].id id = true
  yes : put = true → out ++ l.drop k = insV id n l ∧ ∀ (j : Nat) (h : j < l.length), k ≤ j → ltI id l[j].id = true
  len : out.length ≤ k + 1
theorem AddI.zero (id : ID) (n : Int) (l : List Vt) : AddI id n l 0 [] false := ⟨fun _ => ⟨by simp, by omega⟩, fun h => (by cases h), by simp⟩
theorem AddI.less {id : ID} {n : Int} {l : List Vt} {k : Nat} {out : List Vt} (h : AddI id n l k out false) (ha : Asc l) (hk : k < l.length) (hc : ltI id l[k].id = true) : AddI id n l (k + 1) ((out ++ [⟨id, n⟩]) ++ [l[k]]) true := by
  obtain ⟨e1, e2⟩ := h.no rfl
  refine ⟨fun h => (by cases h), fun _ => ⟨?_, fun j hj hkj => ?_⟩, by have := h.len; rw [e1]; simp; omega⟩
  · rw [ins_take (Nat.le_of_lt hk) e2, List.drop_eq_getElem_cons hk, ins_at hc, e1]
    simp
  · have := (List.pairwise_iff_getElem.1 ha) k j hk hj (by omega)
    exact ltI_trans hc this
theorem AddI.same {id : ID} {n : Int} {l : List Vt} {k : Nat} {out : List Vt} (h : AddI id n l k out false) (ha : Asc l) (hk : k < l.length) (hc : l[k].id = id) : AddI id n l (k + 1) (out ++ [⟨id, n + l[k].n⟩]) true := by
  obtain ⟨e1, e2⟩ := h.no rfl
  refine ⟨fun h => (by cases h), fun _ => ⟨?_, fun j hj hkj => ?_⟩, by have := h.len; simp; omega⟩
  · rw [ins_take (Nat.le_of_lt hk) e2, List.drop_eq_getElem_cons hk, e1]
    have := ins_eq (n := n) (x := l[k]) (r := l.drop (k + 1))
    rw [hc] at this
    rw [this]
    simp
  · have := (List.pairwise_iff_getElem.1 ha) k j hk hj (by omega)
    rw [hc] at this
    exact this
theorem AddI.more {id : ID} {n : Int} {l : List Vt} {k : Nat} {out : List Vt} (h : AddI id n l k out false) (hk : k < l.length) (hc : ltI l[k].id id = true) : AddI id n l (k + 1) (out ++ [l[k]]) false := by
  obtain ⟨e1, e2⟩ := h.no rfl
  refine ⟨fun _ => ⟨by rw [e1, List.take_succ_eq_append_getElem hk], fun j hj hkj => ?_⟩, fun h => (by cases h), by have := h.len; simp; omega⟩
  by_cases e : j = k
  · subst e; exact hc
  · exact e2 j hj (by omega)
theorem AddI.past {id : ID} {n : Int} {l : List Vt} {k : Nat} {out : List Vt} (h : AddI id n l k out true) (hk : k < l.length) : AddI id n l (k + 1) (out ++ [l[k]]) true := by
  obtain ⟨e1, e2⟩ := h.yes rfl
  refine ⟨fun h => (by cases h), fun _ => ⟨?_, fun j hj hkj => e2 j hj (by omega)⟩, by have := h.len; simp; omega⟩
  rw [← e1, List.drop_eq_getElem_cons hk]
  simp
theorem AddI.fin {id : ID} {n : Int} {l : List Vt} {out : List Vt} {put : Bool} (h : AddI id n l l.length out put) : (put = true → out = insV id n l) ∧ (put = false → out ++ [⟨id, n⟩] = insV id n l) := by
  refine ⟨fun hp => ?_, fun hp => ?_⟩
  · have := (h.yes hp).1
    rwa [List.drop_length, List.append_nil] at this
  · obtain ⟨e1, e2⟩ := h.no hp
    rw [ins_take (Nat.le_refl _) (fun j hj _ => e2 j hj hj), e1]
    simp [insV]
set_option maxRecDepth 100000 in
set_option maxHeartbeats 4000000 in
theorem radd_any (w : World) (v : Value) (l : List Vt) (id : ID) (n : Int) (h : SlIn w v 33 vtL l) (hlen : l.length ≤ 64) (ha : Asc l) (hx : ∀ x ∈ l, 0 ≤ x.n ∧ x.n ≤ 64) (hn1 : 0 ≤ n) (hn2 : n ≤ 64) :
    Calls Try.prog 59 #[v, .agg (idL id).toArray, .int .i64 n] w (RetOwn w 58 33 vtL (insV id n l)) := by
  have hb : Below w.heap.size w (w.alloc (.cells (idL id).toArray 37)) := (Below.refl _ w).alloc (Nat.le_refl _) _
  have HSL := Lib.hid (h.below hb)
  have HB := Lib.hid hb
  have HX := Lib.hid hx
  have HA := Lib.hid ha
  have hz : (w.alloc (.cells (idL id).toArray 37)).heap.size = w.heap.size + 1 := by simp
  have HO1 := Lib.hid (show obj (w.alloc (.cells (idL id).toArray 37)) w.heap.size = some (.cells (idL id).toArray 37 (0, 0)) from obj_alloc_at _ _ _ rfl)
  obtain ⟨oa, cap, rfl, g1, g2, g3⟩ := h
  unfold maxLen at g2
  clear g3 hb hx ha
  go_enter Try.func59, Try.ntmps59
  go_wp2
  generalize w.alloc (.cells (idL id).toArray 37) = w1 at *
  generalize hB : w.heap.size = B at *
  go_loopw [7, 8, 9] (fun v7 v8 v9 wr => ∃ (k : Nat) (out : List Vt) (put : Bool), k ≤ l.length ∧ v9 = .int .i64 k ∧ v8 = .bool put ∧ Hid (OwnS wr (B + 1) 58 33 vtL v7 out) ∧ Hid (Below (B + 1) w1 wr) ∧ Hid (AddI id n l k out put)) (fun _ _ i _ => l.length - (intOf i).toNat)
  case atStart => exact ⟨0, [], false, Nat.zero_le _, rfl, rfl, Lib.hid (OwnS.nil _ _ _ _ _), Lib.hid (Below.refl _ _), Lib.hid (AddI.zero id n l)⟩
  case round =>
    obtain ⟨k, out, put, hk, rfl, rfl, HO, HBr, HI⟩ := hrel
    have hzr := HBr.out.size
    have hBl : B < wr.heap.size := by omega
    have hob := (obj_below HBr.out (Nat.lt_succ_self B)).trans HO1.out
    have p0 : subOf (obj wr B) 0 32 = some (idL id).toArray := by rw [hob, subOf_cells (by simp), subA_all (by simp)]
    have hol : out.length ≤ 65 := by have := HI.out.len; omega
    by_cases hlt : k < l.length
    · obtain ⟨oa', cap', e1, g1', g2', g3'⟩ := HSL.out
      simp only [Value.slice.injEq] at e1
      obtain ⟨rfl, _, rfl⟩ := e1
      obtain ⟨b, off, hoa, hb1, hrow⟩ := g3' (by omega)
      subst hoa
      have hs1 := hrow k hlt
      rw [← obj_below HBr.out (by omega)] at hs1
      have hbb : b < wr.heap.size := by omega
      have hmulk : off + k * 33 + 33 ≤ off + k * 33 + 33 := Nat.le_refl _
      obtain ⟨p1, p2⟩ := vt_parts hs1
      have HC := Lib.hid (fun x : Later wr => rcmp_any x.w id l[k].id)
      have HXX := Lib.hid (HX.out l[k] (List.getElem_mem hlt))
      have N1 : Hid (put = false → ltI id l[k].id = true → AddI id n l (k + 1) ((out ++ [⟨id, n⟩]) ++ [l[k]]) true) := Lib.hid (fun e hc => by subst e; exact HI.out.less HA.out hlt hc)
      have N2 : Hid (put = false → l[k].id = id → AddI id n l (k + 1) (out ++ [⟨id, n + l[k].n⟩]) true) := Lib.hid (fun e hc => by subst e; exact HI.out.same HA.out hlt hc)
      have N3 : Hid (put = false → ltI l[k].id id = true → AddI id n l (k + 1) (out ++ [l[k]]) false) := Lib.hid (fun e hc => by subst e; exact HI.out.more hlt hc)
      have N4 : Hid (put = true → AddI id n l (k + 1) (out ++ [l[k]]) true) := Lib.hid (fun e => by subst e; exact HI.out.past hlt)
      have N5 : Hid (put = true → ltI id l[k].id = true) := Lib.hid (fun e => (HI.out.yes e).2 k hlt (Nat.le_refl _))
      have hki : (k : Int) < l.length := by omega
      clear hrow HI
      generalize l[k] = x at *
      cases put with
      | true =>
        have hc := cmpI_lt (N5.out rfl)
        rw [hc] at HC
        have NN := Lib.hid (N4.out rfl)
        clear N1 N2 N3 N4 N5 hc
        go_wp2
        refine wp_region_later wr (Below.refl _ _) (by kernel_rfl) (by kernel_rfl) ?_
        repeat (go_big_quiet_step (first | (go_at_call 68; with_reducible exact Calls.later (HC.out _)) | fail))
        refine wpQuiet_nil ?_
        intro _ hx
        obtain ⟨⟨wz, hbz⟩, hx⟩ := hx
        subst hx
        rename_i wz
        have HBZ := Lib.hid (HBr.out.trans (hbz.mono (by omega)))
        have hs1z : subOf (obj wz b) (off + k * 33) 33 = some (vtL x).toArray := by rw [obj_below hbz hbb]; exact hs1
        have p1z : subOf (obj wz b) (off + k * 33) 32 = some (idL x.id).toArray := by rw [obj_below hbz hbb]; exact p1
        have p2z : wz.cell? ⟨b, off + k * 33 + 32, none⟩ = some (.int .i64 x.n) := (hbz.cell (p := ⟨b, off + k * 33 + 32, none⟩) hbb).trans p2
        have p0z : subOf (obj wz B) 0 32 = some (idL id).toArray := by rw [obj_below hbz hBl]; exact p0
        have hzz := hbz.size
        have HOZ := Lib.hid (HO.out.below hbz)
        obtain ⟨so, sc, rfl⟩ := HO.out.slice
        have ox : obj (wz.alloc (.cells (vtL x).toArray 58)) wz.heap.size = some (.cells (vtL x).toArray 58 (0, 0)) := obj_alloc_at _ _ _ rfl
        have px : subOf (obj (wz.alloc (.cells (vtL x).toArray 58)) wz.heap.size) 0 33 = some (vtL x).toArray := by rw [ox, subOf_cells (by simp), subA_all (by simp)]
        have HZA := Lib.hid ((HBZ.out.alloc (by omega) (.cells (vtL x).toArray 58)).alloc (by simp; omega) (.cells (vtL x).toArray 58))
        clear p0 p1 p2 hs1 hbz HC hob ox HBZ HO
        go_wp2_with (at_builtin; have oo : obj ((wz.alloc (.cells (vtL x).toArray 58)).alloc (.cells (vtL x).toArray 58)) (wz.heap.size + 1) = some (.cells (vtL x).toArray 58 (0, 0)) := obj_alloc_at _ _ _ (by simp); refine push41 rfl _ _ rfl (B + 1) (.slice so out.length sc) out x rfl ((HOZ.out.alloc _).alloc _) (wz.heap.size + 1) rfl oo (by omega) (by simp; omega) ?_; intro v' W3 q1 q2 q3; have Q1 := Lib.hid q1; have Q2 := Lib.hid q2; clear q1 q2 q3 oo)
        go_roundw
        case rel => exact ⟨k + 1, _, true, by omega, by go_num, rfl, Q1, Lib.hid (HZA.out.trans Q2.out), NN⟩
        case measure => simp [intOf]; omega
      | false =>
        rcases ltI_total id x.id with hc0 | hc0 | hc0
        · have hc := cmpI_lt hc0
          rw [hc] at HC
          obtain ⟨out2, ho2⟩ : ∃ out2, out2 = out ++ [(⟨id, n⟩ : Vt)] := ⟨_, rfl⟩
          have hol2 : out2.length ≤ 66 := by rw [ho2]; simp; omega
          have NN := Lib.hid (N1.out rfl hc0)
          rw [← ho2] at NN
          have HO2 := Lib.hid ho2
          clear ho2
          clear N1 N2 N3 N4 N5 hc hc0
          go_wp2
          refine wp_region_later wr (Below.refl _ _) (by kernel_rfl) (by kernel_rfl) ?_
          repeat (go_big_quiet_step (first | (go_at_call 68; with_reducible exact Calls.later (HC.out _)) | fail))
          refine wpQuiet_nil ?_
          intro _ hx
          obtain ⟨⟨wz, hbz⟩, hx⟩ := hx
          subst hx
          rename_i wz
          have HBZ := Lib.hid (HBr.out.trans (hbz.mono (by omega)))
          have hs1z : subOf (obj wz b) (off + k * 33) 33 = some (vtL x).toArray := by rw [obj_below hbz hbb]; exact hs1
          have p0z : subOf (obj wz B) 0 32 = some (idL id).toArray := by rw [obj_below hbz hBl]; exact p0
          have hzz := hbz.size
          have HOZ := Lib.hid (HO.out.below hbz)
          obtain ⟨so, sc, rfl⟩ := HO.out.slice
          have px : ∀ W : World, subOf (obj (W.alloc (.cells (vtL x).toArray 58)) W.heap.size) 0 33 = some (vtL x).toArray := fun W => by rw [show obj (W.alloc (.cells (vtL x).toArray 58)) W.heap.size = some (.cells (vtL x).toArray 58 (0, 0)) from obj_alloc_at _ _ _ rfl, subOf_cells (by simp), subA_all (by simp)]
          have HZA := Lib.hid (HBZ.out.alloc (by omega) (.cells (vtL ⟨id, n⟩).toArray 58))
          clear p0 p1 p2 hs1 hbz HC hob HO
          go_wp2_with (first
            | (at_builtin; have oo : obj (wz.alloc (.cells (vtL ⟨id, n⟩).toArray 58)) wz.heap.size = some (.cells (vtL ⟨id, n⟩).toArray 58 (0, 0)) := obj_alloc_at _ _ _ rfl; refine push41 rfl _ _ rfl (B + 1) (.slice so out.length sc) out ⟨id, n⟩ rfl (HOZ.out.alloc _) wz.heap.size rfl oo (by omega) (by simp; omega) ?_; intro v' W3 q1 q2 q3; rw [← HO2.out] at q1; obtain ⟨so3, sc3, rfl⟩ := q1.slice; have Q1 := Lib.hid q1; have Q2 := Lib.hid (HZA.out.trans q2); have hz3 := Q2.out.size; have hs3 : subOf (obj W3 b) (off + k * 33) 33 = some (vtL x).toArray := (by rw [obj_below q2 (by omega), obj_alloc_past _ _ _ (by omega)]; exact hs1z); have hb3 : b < W3.heap.size := (by omega); have px3 := px W3; clear q1 q2 q3 oo)
            | (at_builtin; have oo : obj ((W3.alloc (.cells (vtL x).toArray 58)).alloc (.cells (vtL x).toArray 58)) (W3.heap.size + 1) = some (.cells (vtL x).toArray 58 (0, 0)) := obj_alloc_at _ _ _ (by simp); refine push41 rfl _ _ rfl (B + 1) (.slice so3 out2.length sc3) out2 x rfl ((Q1.out.alloc _).alloc _) (W3.heap.size + 1) rfl oo (by omega) (by simp; omega) ?_; intro v4 W4 q1 q2 q3; have Q3 := Lib.hid q1; have Q4 := Lib.hid (((Q2.out.alloc (by omega) (.cells (vtL x).toArray 58)).alloc (by simp; omega) (.cells (vtL x).toArray 58)).trans q2); clear q1 q2 q3 oo))
          go_roundw
          case rel => exact ⟨k + 1, _, true, by omega, by go_num, rfl, Q3, Q4, NN⟩
          case measure => simp [intOf]; omega
        · have hc : cmpI id x.id = 0 := by rw [← hc0]; exact cmpI_eq id
          rw [hc] at HC
          have NN := Lib.hid (N2.out rfl hc0.symm)
          have hwr : IntKind.i64.wrap (x.n + n) = n + x.n := by have := HXX.out; simp [IntKind.wrap, IntKind.signed, IntKind.bits]; omega
          have hset : (vtL x).set 32 (.int .i64 (n + x.n)) = vtL ⟨id, n + x.n⟩ := by
            unfold vtL
            rw [hc0, List.set_append_right _ _ (by simp)]
            simp
          clear N1 N2 N3 N4 N5 hc hc0
          go_wp2
          refine wp_region_later wr (Below.refl _ _) (by kernel_rfl) (by kernel_rfl) ?_
          repeat (go_big_quiet_step (first | (go_at_call 68; with_reducible exact Calls.later (HC.out _)) | fail))
          refine wpQuiet_nil ?_
          intro _ hx
          obtain ⟨⟨wz, hbz⟩, hx⟩ := hx
          subst hx
          rename_i wz
          have HBZ := Lib.hid (HBr.out.trans (hbz.mono (by omega)))
          have hs1z : subOf (obj wz b) (off + k * 33) 33 = some (vtL x).toArray := by rw [obj_below hbz hbb]; exact hs1
          have hzz := hbz.size
          have HOZ := Lib.hid (HO.out.below hbz)
          obtain ⟨so, sc, rfl⟩ := HO.out.slice
          have HZA := Lib.hid ((HBZ.out.alloc (by omega) (.cells (vtL ⟨id, n + x.n⟩).toArray 58)).alloc (by simp; omega) (.cells (vtL ⟨id, n + x.n⟩).toArray 58))
          have ox : obj (wz.alloc (.cells (vtL x).toArray 58)) wz.heap.size = some (.cells (vtL x).toArray 58 (0, 0)) := obj_alloc_at _ _ _ rfl
          have px : subOf (obj (wz.alloc (.cells (vtL x).toArray 58)) wz.heap.size) 0 33 = some (vtL x).toArray := by rw [ox, subOf_cells (by simp), subA_all (by simp)]
          obtain ⟨-, c32⟩ := vt_parts px
          rw [Nat.zero_add] at c32
          have fz := frozen_at ox
          clear p0 p1 p2 hs1 hbz HC hob HO
          go_wp2_with (at_builtin; have oo : obj ((wz.alloc (.cells (vtL ⟨id, n + x.n⟩).toArray 58)).alloc (.cells (vtL ⟨id, n + x.n⟩).toArray 58)) (wz.heap.size + 1) = some (.cells (vtL ⟨id, n + x.n⟩).toArray 58 (0, 0)) := obj_alloc_at _ _ _ (by simp); refine push41 rfl _ _ rfl (B + 1) (.slice so out.length sc) out ⟨id, n + x.n⟩ rfl ((HOZ.out.alloc _).alloc _) (wz.heap.size + 1) rfl oo (by omega) (by simp; omega) ?_; intro v' W3 q1 q2 q3; have Q1 := Lib.hid q1; have Q2 := Lib.hid q2; clear q1 q2 q3 oo)
          go_roundw
          case rel => exact ⟨k + 1, _, true, by omega, by go_num, rfl, Q1, Lib.hid (HZA.out.trans Q2.out), NN⟩
          case measure => simp [intOf]; omega
        · have hc := cmpI_gt hc0
          rw [hc] at HC
          have NN := Lib.hid (N3.out rfl hc0)
          clear N1 N2 N3 N4 N5 hc hc0
          go_wp2
          refine wp_region_later wr (Below.refl _ _) (by kernel_rfl) (by kernel_rfl) ?_
          repeat (go_big_quiet_step (first | (go_at_call 68; with_reducible exact Calls.later (HC.out _)) | fail))
          refine wpQuiet_nil ?_
          intro _ hx
          obtain ⟨⟨wz, hbz⟩, hx⟩ := hx
          subst hx
          rename_i wz
          have HBZ := Lib.hid (HBr.out.trans (hbz.mono (by omega)))
          have hs1z : subOf (obj wz b) (off + k * 33) 33 = some (vtL x).toArray := by rw [obj_below hbz hbb]; exact hs1
          have p0z : subOf (obj wz B) 0 32 = some (idL id).toArray := by rw [obj_below hbz hBl]; exact p0
          have hzz := hbz.size
          have HOZ := Lib.hid (HO.out.below hbz)
          obtain ⟨so, sc, rfl⟩ := HO.out.slice
          have px : ∀ W : World, subOf (obj (W.alloc (.cells (vtL x).toArray 58)) W.heap.size) 0 33 = some (vtL x).toArray := fun W => by rw [show obj (W.alloc (.cells (vtL x).toArray 58)) W.heap.size = some (.cells (vtL x).toArray 58 (0, 0)) from obj_alloc_at _ _ _ rfl, subOf_cells (by simp), subA_all (by simp)]
          have pxz := px wz
          have HZA := Lib.hid ((HBZ.out.alloc (by omega) (.cells (vtL x).toArray 58)).alloc (by simp; omega) (.cells (vtL x).toArray 58))
          clear p0 p1 p2 hs1 hbz HC hob HO px
          go_wp2_with (at_builtin; have oo : obj ((wz.alloc (.cells (vtL x).toArray 58)).alloc (.cells (vtL x).toArray 58)) (wz.heap.size + 1) = some (.cells (vtL x).toArray 58 (0, 0)) := obj_alloc_at _ _ _ (by simp); refine push41 rfl _ _ rfl (B + 1) (.slice so out.length sc) out x rfl ((HOZ.out.alloc _).alloc _) (wz.heap.size + 1) rfl oo (by omega) (by simp; omega) ?_; intro v' W3 q1 q2 q3; have Q1 := Lib.hid q1; have Q2 := Lib.hid q2; clear q1 q2 q3 oo)
          go_roundw
          case rel => exact ⟨k + 1, _, false, by omega, by go_num, rfl, Q1, Lib.hid (HZA.out.trans Q2.out), NN⟩
          case measure => simp [intOf]; omega
    · obtain rfl : l.length = k := by omega
      have hk2 : ¬ (l.length : Int) < l.length := by omega
      have HFI := Lib.hid HI.out.fin
      cases put with
      | true =>
        have HR := Lib.hid (HFI.out.1 rfl)
        clear HFI hob HI
        go_wp2
        go_ret
        refine ⟨_, rfl, ?_, ?_⟩
        · rw [← HR.out, hB]; exact OwnS.rebase HO.out (by omega)
        · rw [hB]; exact HB.out.trans (HBr.out.mono (by omega))
      | false =>
        have HR := Lib.hid (HFI.out.2 rfl)
        obtain ⟨so, sc, rfl⟩ := HO.out.slice
        have HZA := Lib.hid (HBr.out.alloc (by omega) (.cells (vtL ⟨id, n⟩).toArray 58))
        clear HFI hob HI
        go_wp2_with (at_builtin; have oo : obj (wr.alloc (.cells (vtL ⟨id, n⟩).toArray 58)) wr.heap.size = some (.cells (vtL ⟨id, n⟩).toArray 58 (0, 0)) := obj_alloc_at _ _ _ rfl; refine push41 rfl _ _ rfl (B + 1) (.slice so out.length sc) out ⟨id, n⟩ rfl (HO.out.alloc _) wr.heap.size rfl oo (by omega) (by simp; omega) ?_; intro v' W3 q1 q2 q3; have Q1 := Lib.hid q1; have Q2 := Lib.hid q2; clear q1 q2 q3 oo)
        go_ret
        refine ⟨_, rfl, ?_, ?_⟩
        · rw [← HR.out, hB]; exact OwnS.rebase Q1.out (by omega)
        · rw [hB]; exact HB.out.trans ((HZA.out.trans Q2.out).mono (by omega))
end Go.Proofs.Ytfejhekoijemdaa
