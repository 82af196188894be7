import Derived.Test.YtmenfbfekfljbaaRefs
namespace Go.Proofs.Ytmenfbfekfljbaa
open Go.RowKit

def upStep (L : List (ID × ID)) (x : FactD) : List (ID × ID) := if x.kind == 1 && (kGet x.id L).isNone then kPut x.id x.other L else L
def upM (xs : List FactD) : List (ID × ID) := xs.foldl upStep []
theorem upM_succ {xs : List FactD} {k : Nat} (h : k < xs.length) : upM (xs.take (k + 1)) = upStep (upM (xs.take k)) xs[k] := by
  unfold upM
  rw [take_succ_get xs k h, List.foldl_append]
  rfl
theorem kGet_put {α ν : Type} [DecidableEq α] (k j : α) (v : ν) : ∀ (L : List (α × ν)), kGet j (kPut k v L) = if j = k then some v else kGet j L
  | [] => by simp [kPut, kGet]
  | (i, u) :: r => by
    unfold kPut
    by_cases h : k = i
    · subst h
      simp only [if_pos, kGet]
      split <;> rfl
    · rw [if_neg h]
      unfold kGet
      rw [kGet_put k j v r]
      by_cases h1 : j = i
      · subst h1
        rw [if_pos rfl, if_neg (fun e => h e.symm), if_pos rfl]
      · rw [if_neg h1, if_neg h1]
theorem parM_cons (x : FactD) (xs : List FactD) (a : ID) : parM (x :: xs) a = if x.kind == 1 && decide (x.id = a) then some x.other else parM xs a := by
  unfold parM
  rw [List.find?_cons]
  cases h : x.kind == 1 && decide (x.id = a) <;> simp
theorem up_fold (a : ID) : ∀ (xs : List FactD) (L : List (ID × ID)), kGet a (xs.foldl upStep L) = (kGet a L).or (parM xs a)
  | [], L => by simp [parM]
  | x :: xs, L => by
    rw [List.foldl_cons, up_fold a xs, parM_cons]
    unfold upStep
    cases h1 : x.kind == 1
    · simp
    · cases h2 : kGet x.id L with
      | some p =>
        simp only [Option.isNone_some, Bool.and_false, Bool.false_eq_true, if_false, Bool.true_and]
        by_cases e : x.id = a
        · subst e; simp [h2]
        · simp [e]
      | none =>
        simp only [Option.isNone_none, Bool.and_true, if_true, Bool.true_and, kGet_put]
        by_cases e : a = x.id
        · subst e; simp [h2]
        · rw [if_neg e, if_neg (by simpa using fun h => e h.symm)]
theorem up_par (xs : List FactD) (a : ID) : kGet a (upM xs) = parM xs a := by
  rw [upM, up_fold]; simp [kGet]

theorem look82 {m : Nat} {es : Array MapEntry} {clk : Nat} {L : List (ID × ID)} (hr : RepK idV idV es.toList L) (a : ID) : ∀ W : World, obj W m = some (.map es clk) →
    (Instr.lookup 82 (.map (some m)) (.agg (idL a).toArray) true).run Try.prog W = .ok (.tuple #[.agg (idL ((kGet a L).getD ID.zero)).toArray, .bool (kGet a L).isSome]) W := by
  intro W hW
  have := run_lookup_k (w := W) (m := m) keyOK45 Try.underlying82 zero45 ⟨es, clk, hW, hr⟩ a
  unfold idV at this
  rw [this]
  cases kGet a L <;> rfl

set_option maxRecDepth 100000 in
set_option maxHeartbeats 1000000 in
theorem parents_any (w : World) (v : Value) (xs : List FactD) (h : SlIn w v 72 factL xs) (hlen : xs.length ≤ 1000) :
    Calls Try.prog 46 #[v] w fun e w' => e = .returned (.map (some w.heap.size)) ∧ MapK w' w.heap.size idV idV (upM xs) ∧ Below w.heap.size w w' := by
  obtain ⟨oa, cap, rfl, h1, h2, h3⟩ := h
  unfold maxLen at h2
  have H3 := Lib.hid h3
  clear h3
  have hmm := @run_makeMap Try.prog
  go_enter Try.func46, Try.ntmps46
  go_wp2
  go_loopw [5, 6, 7, 11] (fun _ _ _ v8 wr => ∃ k : Nat, k ≤ xs.length ∧ v8 = .int .i64 k ∧ MapK wr w.heap.size idV idV (upM (xs.take k)) ∧ Below w.heap.size w wr) (fun _ _ _ i _ => xs.length - (intOf i).toNat)
  case atStart => exact ⟨0, Nat.zero_le _, rfl, MapK.made w idV idV, (Below.refl _ w).alloc (Nat.le_refl _) _⟩
  case round =>
    obtain ⟨k, hk, rfl, hm, hb⟩ := hrel
    by_cases hlt : k < xs.length
    · obtain ⟨b, off, hoa, hbb, hrow⟩ := H3.out (by omega)
      subst hoa
      have hs1 := hrow k hlt
      rw [← obj_below hb hbb] at hs1
      have hbl : b < wr.heap.size := Nat.lt_of_lt_of_le hbb hb.size
      have hne : b ≠ w.heap.size := by omega
      have HU := Lib.hid (upM_succ hlt)
      generalize xs[k] = x at *
      generalize upM (xs.take k) = L at *
      clear hrow
      obtain ⟨es, clk, ho, hr⟩ := hm
      have hml := lt_of_obj ho
      have hz := hb.size
      have hz1 : w.heap.size < wr.heap.size + 1 := by omega
      have hl := look82 (m := w.heap.size) (clk := clk) hr x.id
      obtain ⟨es', clk', hu, hr'⟩ := run_mapUpdate_k (P := Try.prog) (t := 82) (clk := clk) (enc := idV) keyOK45 Try.underlying82 hr w.heap.size x.id x.other
      simp only [idV] at hu
      by_cases hk1 : x.kind = 1
      · have e1 : (x.kind == 1) = true := by simpa using hk1
        cases hg : kGet x.id L with
        | none =>
          have HE : Hid (upM (xs.take (k + 1)) = kPut x.id x.other L) := Lib.hid (by rw [HU.out, upStep, e1, hg]; rfl)
          rw [hg] at hl
          clear hk1 hg
          go_wp2
          go_roundw
          case rel => exact ⟨k + 1, by omega, by go_num, by
            rw [HE.out]
            exact ⟨es', clk', by simp [go_sem, hml], hr'⟩, ((below_putObj hb (Nat.le_refl _) _).alloc (by rw [size_putObj]; omega) _).alloc (by simp; omega) _⟩
          case measure => simp [intOf]; omega
        | some p =>
          have HE : Hid (upM (xs.take (k + 1)) = L) := Lib.hid (by rw [HU.out, upStep, e1, hg]; rfl)
          rw [hg] at hl
          clear hk1 hg
          go_wp2
          go_roundw
          case rel => exact ⟨k + 1, by omega, by go_num, by
            rw [HE.out]
            exact ⟨es, clk, by simp [go_sem, ho, hml, hz], hr⟩, (hb.alloc (by omega) _).alloc (by simp; omega) _⟩
          case measure => simp [intOf]; omega
      · have e1 : (x.kind == 1) = false := by simpa using hk1
        have HE : Hid (upM (xs.take (k + 1)) = L) := Lib.hid (by rw [HU.out, upStep, e1]; rfl)
        clear hk1
        go_wp2
        go_roundw
        case rel => exact ⟨k + 1, by omega, by go_num, by
            rw [HE.out]
            exact ⟨es, clk, by simp [go_sem, ho, hml, hz], hr⟩, (hb.alloc (by omega) _).alloc (by simp; omega) _⟩
        case measure => simp [intOf]; omega
    · have hk' : k = xs.length := by omega
      subst hk'
      rw [List.take_length] at hm
      go_wp2
      go_ret
      exact ⟨rfl, hm, hb⟩
end Go.Proofs.Ytmenfbfekfljbaa
