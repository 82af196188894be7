import Derived.Test.YtmenfbfekfljbaaRel
import Derived.Test.YtmenfbfekfljbaaAgreeR
namespace Go.Proofs.Ytmenfbfekfljbaa
open Go.RowKit

/-- as the code does it: the names accepted so far, each once -/
def agS (ys : List FactD) : List FactD → List ID → Bool
  | [], _ => true
  | x :: r, ids => if x.kind == 8 && !decide (x.id ∈ ids) then (if ids.any (fun id => conflictR ys id x.id) then false else agS ys r (ids ++ [x.id])) else agS ys r ids
theorem conflictR_comm (xs : List FactD) (a b : ID) : conflictR xs a b = conflictR xs b a := by
  unfold conflictR
  cases (parM xs a).isSome <;> cases (parM xs b).isSome <;> cases underM xs a b <;> cases underM xs b a <;> rfl
theorem underM_self (xs : List FactD) (a : ID) : underM xs a a = true := by
  unfold underM underF; simp
theorem conflictR_self (xs : List FactD) (a : ID) : conflictR xs a a = false := by
  unfold conflictR; rw [underM_self]; simp
theorem agS_spec (ys : List FactD) : ∀ (r : List FactD) (ids : List ID), (∀ a ∈ ids, ∀ b ∈ ids, conflictR ys a b = false) → (agS ys r ids = true ↔
    (∀ i (hi : i < r.length), r[i].kind = 8 → (∀ a ∈ ids, conflictR ys a r[i].id = false) ∧ ∀ k (hk : k < i), r[k].kind = 8 → conflictR ys r[k].id r[i].id = false))
  | [], ids, _ => by simp [agS]
  | x :: r, ids, hp => by
    have shift : ∀ (ids' : List ID), (∀ a ∈ ids', ∀ b ∈ ids', conflictR ys a b = false) → (x.kind = 8 → ∀ a, a ∈ ids' ↔ a ∈ ids ∨ a = x.id) → (x.kind ≠ 8 → ids' = ids) → (x.kind = 8 → ∀ a ∈ ids, conflictR ys a x.id = false) →
        (agS ys r ids' = true ↔ (∀ i (hi : i < (x :: r).length), (x :: r)[i].kind = 8 → (∀ a ∈ ids, conflictR ys a (x :: r)[i].id = false) ∧ ∀ k (hk : k < i), (x :: r)[k].kind = 8 → conflictR ys (x :: r)[k].id (x :: r)[i].id = false)) := by
      intro ids' h0 h1 h2 h3
      rw [agS_spec ys r ids' h0]
      constructor
      · intro h i hi hk
        cases i with
        | zero => exact ⟨h3 hk, fun k hk' => by omega⟩
        | succ i =>
          have hi' : i < r.length := by simpa using hi
          obtain ⟨g1, g2⟩ := h i hi' hk
          refine ⟨fun a ha => ?_, fun k hk' hk8 => ?_⟩
          · by_cases e : x.kind = 8
            · exact g1 a ((h1 e a).2 (.inl ha))
            · rw [h2 e] at g1; exact g1 a ha
          · cases k with
            | zero => exact g1 _ ((h1 hk8 _).2 (.inr rfl))
            | succ k => exact g2 k (by omega) hk8
      · intro h i hi hk
        obtain ⟨g1, g2⟩ := h (i + 1) (by simp; omega) hk
        refine ⟨fun a ha => ?_, fun k hk' hk8 => g2 (k + 1) (by omega) hk8⟩
        by_cases e : x.kind = 8
        · rcases (h1 e a).1 ha with ha | rfl
          · exact g1 a ha
          · exact g2 0 (by omega) e
        · rw [h2 e] at ha; exact g1 a ha
    unfold agS
    by_cases e : x.kind = 8
    · have e1 : (x.kind == 8) = true := by simpa using e
      by_cases hm : x.id ∈ ids
      · simp only [e1, hm, decide_true, Bool.not_true, Bool.and_false, Bool.false_eq_true, if_false]
        exact shift ids hp (fun _ a => ⟨.inl, fun h => h.elim id (fun h => h ▸ hm)⟩) (fun h => absurd e h) (fun _ a ha => hp a ha _ hm)
      · simp only [e1, hm, decide_false, Bool.not_false, Bool.and_true, if_true]
        by_cases hc : ids.any (fun id => conflictR ys id x.id) = true
        · rw [if_pos hc]
          simp only [Bool.false_eq_true, false_iff]
          intro h
          have := (h 0 (by simp) e).1
          rw [List.any_eq_true] at hc
          obtain ⟨a, ha, hc⟩ := hc
          rw [show (x :: r)[0].id = x.id from rfl] at this
          rw [this a ha] at hc; cases hc
        · rw [if_neg hc]
          have hc' : ∀ a ∈ ids, conflictR ys a x.id = false := by
            intro a ha
            simp only [List.any_eq_true, not_exists, not_and, Bool.not_eq_true] at hc
            exact hc a ha
          exact shift (ids ++ [x.id]) (fun a ha b hb => by
            simp only [List.mem_append, List.mem_singleton] at ha hb
            rcases ha with ha | rfl <;> rcases hb with hb | rfl
            · exact hp a ha b hb
            · exact hc' a ha
            · rw [conflictR_comm]; exact hc' b hb
            · exact conflictR_self _ _) (fun _ a => by simp) (fun h => absurd e h) (fun _ => hc')
    · have e1 : (x.kind == 8) = false := by simpa using e
      simp only [e1, Bool.false_and, Bool.false_eq_true, if_false]
      exact shift ids hp (fun h => absurd h e) (fun _ => rfl) (fun h => absurd h e)
theorem agreeR_iff (xs : List FactD) : agreeR xs = true ↔ ∀ i (hi : i < xs.length) k (hk : k < i), xs[i].kind = 8 → xs[k].kind = 8 → conflictR xs xs[i].id xs[k].id = false := by
  constructor
  · intro h i hi k hk h1 h2
    by_cases hc : conflictR xs xs[i].id xs[k].id = false
    · exact hc
    · rw [agreeR_no hi hk (by simp [clashR, h1, h2]; simpa using hc)] at h; cases h
  · intro h
    refine agreeR_yes fun i hi k hk => ?_
    unfold clashR
    by_cases h1 : xs[i].kind = 8
    · by_cases h2 : xs[k].kind = 8
      · rw [h i hi k hk h1 h2]; simp
      · simp [h2]
    · simp [h1]
theorem agS_agree (xs : List FactD) : agS xs xs [] = agreeR xs := by
  rw [Bool.eq_iff_iff, agS_spec xs xs [] (by simp), agreeR_iff]
  constructor
  · intro h i hi k hk h1 h2
    rw [conflictR_comm]; exact (h i hi h1).2 k hk h2
  · intro h i hi h1
    exact ⟨by simp, fun k hk h2 => by rw [conflictR_comm]; exact h i hi k hk h1 h2⟩

set_option maxRecDepth 100000 in
set_option maxHeartbeats 2000000 in
theorem agree_any (w : World) (v : Value) (xs : List FactD) (h : SlIn w v 72 factL xs) (hlen : xs.length ≤ 1000) :
    Calls Try.prog 15 #[v] w fun e w' => e = .returned (.bool (agreeR xs)) ∧ Below w.heap.size w w' := by
  have HR := Lib.hid (related_any w v xs h hlen)
  have HAG := Lib.hid (agS_agree xs)
  obtain ⟨oa, cap, rfl, h1, h2, h3⟩ := h
  unfold maxLen at h2
  have H3 := Lib.hid h3
  clear h3
  generalize agreeR xs = r at *
  have hmf : ∀ (fn : Fn) (first cap : Array Value) (w : World), (Instr.makeFunc fn first cap).run Try.prog w = .ok (.func fn first cap) w := fun _ _ _ _ => rfl
  go_enter Try.func15, Try.ntmps15
  go_wp2_with fail
  refine HR.out.mono ?_
  rintro e w1 ⟨ub, m, rfl, hr1, hb1, hu, hm⟩
  go_wp2_with fail
  have p1 : obj (w1.alloc (.cells #[.map (some m), .func (.func 63) #[] #[.pointer (some ⟨ub, 0, none⟩)]] 85)) w1.heap.size = some (.cells #[.map (some m), .func (.func 63) #[] #[.pointer (some ⟨ub, 0, none⟩)]] 85 (0, 0)) := obj_alloc_at _ _ _ rfl
  have b1 : Below w.heap.size w (w1.alloc (.cells #[.map (some m), .func (.func 63) #[] #[.pointer (some ⟨ub, 0, none⟩)]] 85)) := hb1.alloc hb1.size _
  have r1 := hr1.below ((Below.refl _ w1).alloc (Nat.le_refl _) (.cells #[.map (some m), .func (.func 63) #[] #[.pointer (some ⟨ub, 0, none⟩)]] 85))
  have z1 := hb1.size
  generalize w1.heap.size = rb at *
  generalize w1.alloc (.cells #[.map (some m), .func (.func 63) #[] #[.pointer (some ⟨ub, 0, none⟩)]] 85) = w2 at *
  clear hr1 hb1
  go_loopw [4, 6, 7, 12] (fun v4 _ _ v12 wr => ∃ (k : Nat) (ids : List ID), k ≤ xs.length ∧ v12 = .int .i64 k ∧ ids.length ≤ k ∧ OwnS wr w.heap.size 45 32 idL v4 ids ∧ Hid (agS xs (xs.drop k) ids = r) ∧ Below w.heap.size w wr ∧ Hid (RelAt wr ub m xs) ∧
    Hid (obj wr rb = some (.cells #[.map (some m), .func (.func 63) #[] #[.pointer (some ⟨ub, 0, none⟩)]] 85 (0, 0)))) (fun _ _ _ i _ => xs.length - (intOf i).toNat)
  case atStart => exact ⟨0, [], Nat.zero_le _, rfl, Nat.le_refl _, OwnS.nil _ _ _ _ _, HAG, b1, Lib.hid r1, Lib.hid p1⟩
  case round =>
    clear b1 r1 p1
    obtain ⟨k, ids, hk, rfl, hids, hown, HG, hb, HRel, HB⟩ := hrel
    have hz := hb.size
    by_cases hlt : k < xs.length
    · obtain ⟨b, off, hoa, hbb, hrow⟩ := H3.out (by omega)
      subst hoa
      have hsub := hrow k hlt
      have hob : obj wr b = obj w b := obj_below hb hbb
      have hbr : b < wr.heap.size := Nat.lt_of_lt_of_le hbb hb.size
      have hg := HG.out
      rw [List.drop_eq_getElem_cons hlt, agS] at hg
      generalize xs[k] = x at *
      clear hrow
      by_cases hk8 : x.kind = 8
      · have e0 : (x.kind != 8) = false := by simpa using hk8
        have e1 : (x.kind == 8) = true := by simpa using hk8
        have CT := Lib.hid (contains_any (wr.alloc (.cells (factL x).toArray 54)) _ ids x.id ((hown.alloc (.cells (factL x).toArray 54)).slIn idL_length))
        have f1 : obj (wr.alloc (.cells (factL x).toArray 54)) wr.heap.size = some (.cells (factL x).toArray 54 (0, 0)) := obj_alloc_at _ _ _ rfl
        have bA : Below wr.heap.size wr (wr.alloc (.cells (factL x).toArray 54)) := (Below.refl _ _).alloc (Nat.le_refl _) _
        by_cases hm8 : x.id ∈ ids
        · rw [decide_eq_true hm8] at CT
          rw [e1, decide_eq_true hm8] at hg
          have HG2 := Lib.hid hg
          clear hg hm8 hk8 e1
          go_wp2_with fail
          refine CT.out.mono ?_
          rintro e w3 ⟨rfl, hb3⟩
          have bB : Below wr.heap.size wr w3 := bA.trans (hb3.mono (by simp))
          go_wp2
          go_roundw
          case rel => exact ⟨k + 1, ids, by omega, by go_num, by omega, hown.below bB, HG2, hb.trans (bB.mono hz), Lib.hid (HRel.out.below bB), Lib.hid ((obj_below bB (lt_of_obj HB.out)).trans HB.out)⟩
          case measure => simp [intOf]; omega
        · rw [decide_eq_false hm8] at CT
          rw [e1, decide_eq_false hm8] at hg
          simp only [Bool.not_false, Bool.and_self, if_true] at hg
          have CF := Lib.hid fun W (hW : Below wr.heap.size wr W) (hf : obj W wr.heap.size = some (.cells (factL x).toArray 54 (0, 0))) =>
            containsFunc_id W _ ids 42 #[.pointer (some ⟨rb, 0, none⟩), .pointer (some ⟨wr.heap.size, 0, none⟩)] (fun id => conflictR xs id x.id) eg42
              (fun W' a hb' => against_any W' rb wr.heap.size ub m xs x a ((HRel.out.below hW).below hb') ((obj_below hb' (lt_of_obj ((obj_below hW (lt_of_obj HB.out)).trans HB.out))).trans ((obj_below hW (lt_of_obj HB.out)).trans HB.out)) ((obj_below hb' (lt_of_obj hf)).trans hf))
              ((hown.below hW).slIn idL_length)
          generalize ids.any (fun id => conflictR xs id x.id) = c at *
          have HG2 := Lib.hid hg
          clear hg hm8 hk8 e1
          go_wp2_with fail
          refine CT.out.mono ?_
          rintro e w3 ⟨rfl, hb3⟩
          have bB : Below wr.heap.size wr w3 := bA.trans (hb3.mono (by simp))
          have f3 : obj w3 wr.heap.size = some (.cells (factL x).toArray 54 (0, 0)) := (obj_below hb3 (lt_of_obj f1)).trans f1
          clear hb3 f1 bA
          go_wp2_with fail
          refine (CF.out _ bB f3).mono ?_
          rintro e w4 ⟨rfl, hb4⟩
          have f4 : obj w4 wr.heap.size = some (.cells (factL x).toArray 54 (0, 0)) := (obj_below hb4 (lt_of_obj f3)).trans f3
          have bC : Below wr.heap.size wr w4 := bB.trans (hb4.mono bB.size)
          have z4 := lt_of_obj f4
          clear bB f3 hb4
          have hown4 := hown.below bC
          have bD : Below w.heap.size w w4 := hb.trans (bC.mono hz)
          have hz4 := bD.size
          cases c
          · go_wp2_with (at_builtin; refine push45 rfl _ _ rfl w.heap.size _ ids x.id rfl (hown4.alloc _) w4.heap.size rfl (by go_simp) (by omega) (by simp; omega) ?_; intro v' w5 hown5 hb5 hk5)
            have e5 : ∀ j, j < wr.heap.size → u4.ownBlock ≠ some j → obj w5 j = obj wr j := fun j hj hne => (hk5 j (by simp; omega) hne).trans ((obj_alloc_past _ _ _ (by omega)).trans (obj_below bC hj))
            go_roundw
            case rel => exact ⟨k + 1, ids ++ [x.id], by omega, by go_num, by simp; omega, hown5, HG2, (bD.alloc hz4 _).trans hb5,
              Lib.hid ⟨(e5 ub (lt_of_obj HRel.out.box) (hown.ne HRel.out.box (by simp))).trans HRel.out.box, HRel.out.map.of_obj (e5 m HRel.out.map.lt (by
                obtain ⟨es, clk, ho, _⟩ := HRel.out.map
                exact hown.ne ho (by simp)))⟩, Lib.hid ((e5 rb (lt_of_obj HB.out) (hown.ne HB.out (by simp))).trans HB.out)⟩
            case measure => simp [intOf]; omega
          · go_wp2
            go_ret
            exact ⟨ret_bool HG2.out, bD⟩
      · have e0 : (x.kind != 8) = true := by simpa using hk8
        have e1 : (x.kind == 8) = false := by simpa using hk8
        rw [e1] at hg
        have HG2 := Lib.hid hg
        clear hg hk8
        go_wp2
        go_roundw
        case rel => exact ⟨k + 1, ids, by omega, by go_num, by omega, hown.alloc _, HG2, hb.alloc hz _, Lib.hid (HRel.out.below ((Below.refl _ _).alloc (Nat.le_refl _) _)), Lib.hid ((obj_alloc_past _ _ _ (lt_of_obj HB.out)).trans HB.out)⟩
        case measure => simp [intOf]; omega
    · have hk' : k = xs.length := by omega
      have hg := HG.out
      rw [hk', List.drop_length, agS] at hg
      have HG2 := Lib.hid hg
      clear hg
      go_wp2
      go_ret
      exact ⟨ret_bool HG2.out, hb⟩
end Go.Proofs.Ytmenfbfekfljbaa
