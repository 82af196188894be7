import Derived.Test.YtfejhekoijemdaaEarlyM
import Derived.Test.YtfejhekoijemdaaApp
namespace Go.Proofs.Ytfejhekoijemdaa
open Go.RowKit

set_option maxRecDepth 100000 in
set_option maxHeartbeats 2000000 in
theorem winner_any (w : World) (v : Value) (l : List Vt) (p : Int) (h : SlIn w v 33 vtL l) : Calls Try.prog 18 #[v, .int .i64 p] w fun e w' => e = .returned (.tuple #[.agg (idL (winV l p).1).toArray, .int .i64 (winV l p).2]) ∧ Below w.heap.size w w' := by
  obtain ⟨oa, cap, rfl, g1, g2, g3⟩ := h
  have H3 := Lib.hid g3
  unfold maxLen at g2
  obtain ⟨T, hT⟩ : ∃ T, T = winV l p := ⟨_, rfl⟩
  rw [← hT]
  obtain ⟨t1, t2⟩ := T
  have HT : Hid (winV l p = (t1, t2)) := Lib.hid hT.symm
  clear g3 hT
  have o1 : Hid (obj (w.alloc (.cells (idL ID.zero).toArray 37)) w.heap.size = some (.cells (idL ID.zero).toArray 37 (0, 0))) := Lib.hid (obj_alloc_at _ _ _ rfl)
  have B1 : Hid (Below w.heap.size w (w.alloc (.cells (idL ID.zero).toArray 37))) := Lib.hid ((Below.refl _ _).alloc (Nat.le_refl _) _)
  have hz0 : (w.alloc (.cells (idL ID.zero).toArray 37)).heap.size = w.heap.size + 1 := by simp
  go_enter Try.func18, Try.ntmps18
  go_wp2_with fail
  generalize w.alloc (.cells (idL ID.zero).toArray 37) = w0 at *
  go_loopw [10] (fun v10 wr => ∃ k : Nat, k ≤ l.length ∧ v10 = .int .i64 k ∧ Hid (winV (l.drop k) p = (t1, t2)) ∧ Hid (obj wr w.heap.size = some (.cells (idL ID.zero).toArray 37 (0, 0))) ∧ Hid (Below w.heap.size w wr) ∧ w0.heap.size ≤ wr.heap.size) (fun i _ => l.length - (intOf i).toNat)
  case atStart => exact ⟨0, Nat.zero_le _, rfl, Lib.hid (by rw [List.drop_zero]; exact HT.out), o1, B1, Nat.le_refl _⟩
  case round =>
    obtain ⟨k, hk, rfl, HM, P1, HB, hzk⟩ := hrel
    have hBl : w.heap.size < wr.heap.size := by omega
    by_cases hlt : k < l.length
    case neg =>
      have HG : Hid ((ID.zero, (0 : Int)) = (t1, t2)) := Lib.hid (by have := HM.out; rw [List.drop_eq_nil_of_le (by omega)] at this; exact this)
      have pp : putOf (obj wr w.heap.size) 0 32 (idL ID.zero).toArray = some (.cells (idL ID.zero).toArray 37 (0, 0)) := by
        rw [P1.out, putOf_cells (by simp) (by simp) (idL_one _), spliceA_all (by simp)]
      have p3 : subOf (obj (putObj wr w.heap.size (.cells (idL ID.zero).toArray 37)) w.heap.size) 0 32 = some (idL ID.zero).toArray := by
        rw [obj_putObj_eq _ _ _ hBl, subOf_cells (by simp), subA_all (by simp)]
      have HF := Lib.hid (HB.out.trans (((Keeps.refl (fun j => j = w.heap.size) wr).putObj (m := w.heap.size) rfl (.cells (idL ID.zero).toArray 37)).below (B := w.heap.size) (fun j hj => by omega) (by omega)))
      go_wp2_with fail
      refine bodyPost_ret (results_cell_tmp rfl _ rfl (by rw [run_load37, p3]; rfl)) rfl ?_
      have h1 := HG.out
      injection h1 with h1 h2
      rw [← h1, ← h2]
      exact ⟨rfl, HF.out⟩
    obtain ⟨b, off, rfl, hbb, hrow⟩ := H3.out (by omega)
    have hs1 := hrow k hlt
    rw [← obj_below HB.out hbb] at hs1
    have hbl : b < wr.heap.size := by omega
    have HM2 : Hid (winV (l[k] :: l.drop (k + 1)) p = (t1, t2)) := Lib.hid (by have := HM.out; rw [List.drop_eq_getElem_cons hlt] at this; exact this)
    clear hrow
    generalize l[k] = x at *
    have o2 : obj (wr.alloc (.cells (vtL x).toArray 58)) wr.heap.size = some (.cells (vtL x).toArray 58 (0, 0)) := obj_alloc_at _ _ _ rfl
    obtain ⟨p1, p2⟩ := vt_parts (x := x) (W := wr.alloc (.cells (vtL x).toArray 58)) (b := wr.heap.size) (o := 0) (by rw [o2, subOf_cells (by simp), subA_all (by simp)])
    rw [Nat.zero_add] at p2
    have q1 : obj (wr.alloc (.cells (vtL x).toArray 58)) w.heap.size = some (.cells (idL ID.zero).toArray 37 (0, 0)) := (obj_alloc_past _ _ _ (by omega)).trans P1.out
    have HB2 := Lib.hid (HB.out.alloc (by omega) (.cells (vtL x).toArray 58))
    have hzz : (wr.alloc (.cells (vtL x).toArray 58)).heap.size = wr.heap.size + 1 := by simp
    have HQ1 := Lib.hid q1
    by_cases hge : p ≤ x.n
    · have HG : Hid ((x.id, x.n) = (t1, t2)) := Lib.hid (by have := HM2.out; unfold winV at this; rw [if_pos hge] at this; exact this)
      clear o2 q1
      have HP1 := Lib.hid p1
      have HP2 := Lib.hid p2
      go_wp2_with fail
      have hbw : w.heap.size < (wr.alloc (.cells (vtL x).toArray 58)).heap.size := by omega
      have hbx : wr.heap.size < (wr.alloc (.cells (vtL x).toArray 58)).heap.size := by omega
      clear p1 p2
      generalize wr.alloc (.cells (vtL x).toArray 58) = wx at *
      have p1 := HP1.out
      have p2 := HP2.out
      have pp : putOf (obj wx w.heap.size) 0 32 (idL x.id).toArray = some (.cells (idL x.id).toArray 37 (0, 0)) := by
        rw [HQ1.out, putOf_cells (by simp) (by simp) (idL_one _), spliceA_all (by simp)]
      have q3 : obj (putObj wx w.heap.size (.cells (idL x.id).toArray 37)) w.heap.size = some (.cells (idL x.id).toArray 37 (0, 0)) := obj_putObj_eq _ _ _ hbw
      have p3 : subOf (obj (putObj wx w.heap.size (.cells (idL x.id).toArray 37)) w.heap.size) 0 32 = some (idL x.id).toArray := by rw [q3, subOf_cells (by simp), subA_all (by simp)]
      have q4 : obj (putObj wx w.heap.size (.cells (idL x.id).toArray 37)) wr.heap.size = obj wx wr.heap.size := obj_putObj_ne _ _ _ _ (by omega)
      have p1' := p1
      rw [← q4] at p1'
      have p2' : (putObj wx w.heap.size (.cells (idL x.id).toArray 37)).cell? ⟨wr.heap.size, 32, none⟩ = some (.int .i64 x.n) := by rw [cell_putObj_ne (h := by omega)]; exact p2
      have HF := Lib.hid (HB2.out.trans (((Keeps.refl (fun j => j = w.heap.size) wx).putObj (m := w.heap.size) rfl (.cells (idL x.id).toArray 37)).below (B := w.heap.size) (fun j hj => by omega) (by omega)))
      clear q4
      go_region
      all_goals go_wp2
      have p4 : subOf (obj (putObj wx w.heap.size (.cells (idL x.id).toArray 37)).drew w.heap.size) 0 32 = some (idL x.id).toArray := p3
      refine bodyPost_ret (results_cell_tmp rfl _ rfl (by rw [run_load37, p4]; rfl)) rfl ?_
      have h1 := HG.out
      injection h1 with h1 h2
      rw [← h1, ← h2]
      exact ⟨rfl, HF.out.drew⟩
    · have HG : Hid (winV (l.drop (k + 1)) p = (t1, t2)) := Lib.hid (by have := HM2.out; unfold winV at this; rw [if_neg hge] at this; exact this)
      have hge' : ¬ p ≤ x.n := hge
      clear o2 q1
      go_wp2_with fail
      go_roundw
      case rel => exact ⟨k + 1, by omega, by go_num, HG, HQ1, HB2, by omega⟩
      case measure => simp [intOf]; omega
theorem flatMap_setC {α : Type} {k : Nat} {enc : α → List Value} (hk : ∀ x, (enc x).length = k) (y : α) (j : Nat) (u : Value) (hj : j < k) : ∀ (xs : List α) (i : Nat) (h : i < xs.length), enc y = (enc xs[i]).set j u → (xs.set i y).flatMap enc = (xs.flatMap enc).set (i * k + j) u
  | [], i, h, _ => by simp at h
  | x :: r, 0, h, he => by
    simp only [List.getElem_cons_zero] at he
    simp only [List.set_cons_zero, List.flatMap_cons, Nat.zero_mul, Nat.zero_add]
    rw [List.set_append_left _ _ (by rw [hk]; exact hj), he]
  | x :: r, i + 1, h, he => by
    simp only [List.getElem_cons_succ] at he
    have ih := flatMap_setC hk y j u hj r i (by simpa using h) he
    simp only [List.set_cons_succ, List.flatMap_cons]
    rw [ih, show (i + 1) * k + j = k + (i * k + j) by rw [Nat.add_mul]; omega, List.set_append_right _ _ (by rw [hk]; omega), hk, Nat.add_sub_cancel_left]
theorem vtL_set (x : Vt) (n : Int) : vtL ⟨x.id, n⟩ = (vtL x).set 32 (.int .i64 n) := by
  unfold vtL
  rw [List.set_append_right _ _ (by simp)]
  simp
/-- an own row with the number of one vote laid anew -/
theorem OwnS.setN {w : World} {base : Nat} {g cap : Nat} {xs : List Vt} (h : OwnS w base 58 33 vtL (.slice (some ⟨g, 0, none⟩) xs.length cap) xs) {i : Nat} (hi : i < xs.length) (n : Int) :
    OwnS (w.setCell ⟨g, i * 33 + 32, none⟩ (.int .i64 n)) base 58 33 vtL (.slice (some ⟨g, 0, none⟩) xs.length cap) (xs.set i ⟨xs[i].id, n⟩) := by
  have hf := flatMap_setC vtL_length ⟨xs[i].id, n⟩ 32 (.int .i64 n) (by decide) xs i hi (vtL_set _ _)
  obtain ⟨⟨hl, h1⟩, h2⟩ := h
  rcases h1 with ⟨e, _⟩ | ⟨g', cap', cur, e, hb, hg, s1, s2, s3, s4⟩
  · cases e
  · simp only [Value.slice.injEq, Option.some.injEq, Addr.mk.injEq] at e
    obtain ⟨⟨rfl, _⟩, _, rfl⟩ := e
    have hg' : obj w g = some (.cells cur 58 (0, 0)) := hg
    have hset := obj_setCell_at (b := g) (i := i * 33 + 32) (.int .i64 n) hg'
    refine ⟨⟨by rw [hf]; simpa using hl, .inr ⟨g, cap, cur.setIfInBounds (i * 33 + 32) (.int .i64 n), by simp, hb, hset, by simpa using s1, s2, by simpa using s3, ?_⟩⟩, ?_⟩
    · rw [Array.toList_setIfInBounds, List.take_set, hf]
      congr 1
      simpa using s4
    · constructor
      · intro e; cases e
      · intro e
        have h5 := congrArg List.length e
        simp at h5
        subst h5
        simp at hi
theorem withV_hit {id : ID} {n : Int} : ∀ {l : List Vt} {k : Nat} (hk : k < l.length), (∀ (j : Nat) (h : j < l.length), j < k → l[j].id ≠ id) → l[k].id = id → withV l id n = l.set k ⟨l[k].id, l[k].n + n⟩
  | x :: r, 0, _, _, h2 => by
    unfold withV
    rw [if_pos (by simpa using h2)]
    rfl
  | x :: r, k + 1, hk, h1, h2 => by
    unfold withV
    rw [if_neg (by have := h1 0 (by simp) (by omega); simpa using this), withV_hit (l := r) (k := k) (by simpa using hk) (fun j hj hlt => by have := h1 (j + 1) (by simpa using hj) (by omega); simpa using this) (by simpa using h2)]
    rfl
theorem withV_miss {id : ID} {n : Int} : ∀ {l : List Vt}, (∀ (j : Nat) (h : j < l.length), l[j].id ≠ id) → withV l id n = l ++ [⟨id, n⟩]
  | [], _ => rfl
  | x :: r, h => by
    unfold withV
    rw [if_neg (by have := h 0 (by simp); simpa using this), withV_miss (l := r) (fun j hj => by have := h (j + 1) (by simpa using hj); simpa using this)]
    rfl
set_option maxRecDepth 100000 in
set_option maxHeartbeats 4000000 in
theorem with_any (w : World) (v : Value) (l : List Vt) (id : ID) (n : Int) (h : SlIn w v 33 vtL l) (hn : NN l) (hs : sumN l ≤ 1048576) (n0 : 0 ≤ n) (n1 : n ≤ 1048576) (hlen : l.length ≤ 4096) :
    Calls Try.prog 17 #[v, .agg (idL id).toArray, .int .i64 n] w (RetOwn w 58 33 vtL (withV l id n)) := by
  have HS := Lib.hid h
  have hbd : Hid (∀ x ∈ l, 0 ≤ x.n ∧ x.n ≤ 1048576) := Lib.hid (fun x hx => by
    refine ⟨hn x hx, ?_⟩
    have : ∀ l : List Vt, NN l → x ∈ l → x.n ≤ sumN l := by
      intro l
      induction l with
      | nil => intro _ h; cases h
      | cons y r ih =>
        intro hn hx
        have h1 := hn y (by simp)
        have h2 : NN r := fun z hz => hn z (by simp [hz])
        have h3 := h2.sum
        simp only [sumN]
        rcases List.mem_cons.1 hx with rfl | hx
        · omega
        · have := ih h2 hx; omega
    have := this l hn hx
    omega)
  obtain ⟨i0, hi, hz0, hz1, hz2⟩ := info_parts info58
  obtain ⟨oa, cap, rfl, g1, g2, g3⟩ := h
  unfold maxLen at g2
  clear g3 hn hs
  have o1 : Hid (obj (w.alloc (.cells (idL id).toArray 37)) w.heap.size = some (.cells (idL id).toArray 37 (0, 0))) := Lib.hid (obj_alloc_at _ _ _ rfl)
  have B1 : Hid (Below w.heap.size w (w.alloc (.cells (idL id).toArray 37))) := Lib.hid ((Below.refl _ _).alloc (Nat.le_refl _) _)
  have hz : (w.alloc (.cells (idL id).toArray 37)).heap.size = w.heap.size + 1 := by simp
  have S1 := Lib.hid (HS.out.below B1.out)
  go_enter Try.func17, Try.ntmps17
  go_wp2_with (at_builtin; refine wpList_pushAll Try.underlying41 hi hz0 hz1 hz2 (by simp [Value.cells]) (by decide) vtL_length vtL_one rfl _ _ rfl w.heap.size (.slice none 0 0) [] l rfl (OwnS.nil _ _ _ _ _) (.slice oa l.length cap) rfl S1.out (by simp; omega) (by decide) (by omega) ?_; intro v2 w2 o2 b2 k2; have O2 : Hid (OwnS w2 w.heap.size 58 33 vtL v2 l) := Lib.hid o2; have B2 := Lib.hid (B1.out.trans b2); have P2 := Lib.hid ((k2 w.heap.size (by omega) (by simp [Value.ownBlock])).trans o1.out); obtain ⟨va, vc, e2⟩ := o2.slice; have e2' : v2 = .slice va l.length vc := e2; clear o2 b2 k2 e2; subst e2')
  go_loopw [8, 13] (fun _ v13 wr => ∃ k : Nat, k ≤ l.length ∧ v13 = .int .i64 k ∧ Hid (∀ (j : Nat) (h : j < l.length), j < k → l[j].id ≠ id) ∧ Hid (OwnS wr w.heap.size 58 33 vtL (.slice va l.length vc) l) ∧ Hid (obj wr w.heap.size = some (.cells (idL id).toArray 37 (0, 0))) ∧ Hid (Below w.heap.size w wr)) (fun _ i _ => l.length - (intOf i).toNat)
  case atStart => exact ⟨0, Nat.zero_le _, rfl, Lib.hid (fun j h h' => by omega), O2, P2, B2⟩
  case round =>
    obtain ⟨k, hk, rfl, HM, HO, HP, HB⟩ := hrel
    have hzr := HB.out.size
    have hBl := lt_of_obj HP.out
    have pb : subOf (obj wr w.heap.size) 0 32 = some (idL id).toArray := by rw [HP.out, subOf_cells (by simp), subA_all (by simp)]
    by_cases hlt : k < l.length
    case neg =>
      have HMS : Hid (withV l id n = l ++ [⟨id, n⟩]) := Lib.hid (withV_miss fun j hj => HM.out j hj (by omega))
      have hEL := HO.out.alloc (.cells (vtL ⟨id, n⟩).toArray 58)
      go_wp2_with (at_builtin; have oo : obj (wr.alloc (.cells (vtL ⟨id, n⟩).toArray 58)) wr.heap.size = some (.cells (vtL ⟨id, n⟩).toArray 58 (0, 0)) := obj_alloc_at _ _ _ rfl; refine push41 rfl _ _ rfl w.heap.size (.slice va l.length vc) l ⟨id, n⟩ rfl hEL wr.heap.size rfl oo (by omega) (by simp; omega) ?_; intro v5 w5 r5 b5 g5; have R5 : Hid (OwnS w5 w.heap.size 58 33 vtL v5 (withV l id n)) := Lib.hid (by rw [HMS.out]; exact r5); have B5 := Lib.hid ((HB.out.alloc hzr (.cells (vtL ⟨id, n⟩).toArray 58)).trans b5); obtain ⟨xa, xc, e5⟩ := r5.slice; clear r5 b5 g5 oo; generalize List.length _ = xn at e5; subst e5)
      go_ret
      exact ⟨_, rfl, R5.out, B5.out⟩
    obtain ⟨g, rfl⟩ : ∃ g, va = some ⟨g, 0, none⟩ := by
      rcases HO.out.1.2 with ⟨e, e0⟩ | ⟨g, cap', cur, e, _⟩
      · simp only [Value.slice.injEq] at e; omega
      · simp only [Value.slice.injEq] at e; exact ⟨g, e.1⟩
    obtain ⟨oa', cap', e', _, _, h3⟩ := HO.out.slIn vtL_length
    obtain ⟨b', off', e2, hgl, hrow⟩ := h3 (by omega)
    simp only [Value.slice.injEq] at e'
    obtain ⟨rfl, _, rfl⟩ := e'
    simp only [Option.some.injEq, Addr.mk.injEq] at e2
    obtain ⟨rfl, rfl, _⟩ := e2
    have hs1 := hrow k hlt
    rw [Nat.zero_add] at hs1
    obtain ⟨p1, p2⟩ := vt_parts hs1
    have hfz : wr.frozen? ⟨g, k * 33 + 32, none⟩ = false := by
      rcases HO.out.1.2 with ⟨e, e0⟩ | ⟨g', cap', cur, e, _, hg', _⟩
      · cases e
      · simp only [Value.slice.injEq, Option.some.injEq, Addr.mk.injEq] at e
        obtain ⟨⟨rfl, _⟩, _⟩ := e
        exact frozen_at hg' _
    have hb1 := hbd.out l[k] (List.getElem_mem hlt)
    clear hrow hs1 h3
    have HST := fun m => Lib.hid (HO.out.setN hlt m)
    have HHT : Hid (l[k].id = id → withV l id n = l.set k ⟨l[k].id, l[k].n + n⟩) := Lib.hid (fun e => withV_hit hlt HM.out e)
    have HNX : Hid (l[k].id ≠ id → ∀ (j : Nat) (h : j < l.length), j < k + 1 → l[j].id ≠ id) := Lib.hid (fun hne j hj hlt' => by
      by_cases e : j = k
      · subst e; exact hne
      · exact HM.out j hj (by omega))
    have hw1 : IntKind.i64.wrap (l[k].n + n) = l[k].n + n := by simp [IntKind.wrap, IntKind.signed, IntKind.bits]; omega
    generalize l[k] = x at *
    by_cases he : x.id = id
    · have HE := HHT.out he
      have hd : decide (x.id = id) = true := by simpa using he
      clear he
      go_wp2_with fail
      go_quiet (fail)
      go_wp2_with fail
      have HE' := Lib.hid HE
      clear HE
      go_ret
      refine ⟨_, rfl, ?_, (below_drewN HB.out _).setCell (HO.out.1.lt g rfl).1 _⟩
      rw [HE'.out]
      exact (HST (x.n + n)).out.keeps fun _ _ => rfl
    · have HE := HNX.out he
      have hd : decide (x.id = id) = false := by simpa using he
      have HEE := Lib.hid HE
      clear he HE
      go_wp2_with fail
      go_quiet (fail)
      go_wp2_with fail
      go_roundw
      case rel => exact ⟨k + 1, by omega, by go_num, HEE, Lib.hid (HO.out.keeps fun _ _ => rfl), HP, Lib.hid (below_drewN HB.out _)⟩
      case measure => simp [intOf]; omega
end Go.Proofs.Ytfejhekoijemdaa
