import Derived.Test.YtmenfbfekfljbaaUp
import Derived.Test.YtmenfbfekfljbaaUnderR
import Derived.Deep.LoopGhost
namespace Go.Proofs.Ytmenfbfekfljbaa
open Go.RowKit

/-! ### from parent to parent -/
def itF (par : ID → Option ID) : Nat → ID → Option ID
  | 0, a => some a
  | n + 1, a => (itF par n a).bind par
theorem itF_succ (par : ID → Option ID) : ∀ (n : Nat) (a : ID), itF par (n + 1) a = (par a).bind (itF par n)
  | 0, a => by simp [itF]
  | n + 1, a => by
    have := itF_succ par n a
    rw [itF, this]
    cases par a with
    | none => rfl
    | some p => rfl
theorem underF_iff (par : ID → Option ID) (b : ID) : ∀ (n : Nat) (a : ID), underF par n a b = true ↔ ∃ k, k < n ∧ itF par k a = some b
  | 0, a => by simp [underF]
  | n + 1, a => by
    unfold underF
    by_cases h : a = b
    · rw [if_pos h]
      simp only [true_iff]
      exact ⟨0, by omega, by simp [itF, h]⟩
    · rw [if_neg h]
      cases hp : par a with
      | none =>
        simp only [Bool.false_eq_true, false_iff]
        rintro ⟨k, hk, hi⟩
        cases k with
        | zero => simp [itF] at hi; exact h hi
        | succ k => rw [itF_succ, hp] at hi; cases hi
      | some p =>
        simp only
        rw [underF_iff par b n p]
        constructor
        · rintro ⟨k, hk, hi⟩
          exact ⟨k + 1, by omega, by rw [itF_succ, hp]; exact hi⟩
        · rintro ⟨k, hk, hi⟩
          cases k with
          | zero => simp [itF] at hi; exact absurd hi h
          | succ k => rw [itF_succ, hp] at hi; exact ⟨k, by omega, hi⟩
structure PathInv (par : ID → Option ID) (a b : ID) (V : List ID) (c : ID) : Prop where
  nodup : V.Nodup
  it : ∀ i (h : i < V.length), itF par i a = some V[i]
  cur : itF par V.length a = some c
  nb : b ∉ V
  pa : ∀ x ∈ V, (par x).isSome
section
variable {par : ID → Option ID} {a b c p : ID} {V : List ID}
theorem PathInv.start (par : ID → Option ID) (a b : ID) : PathInv par a b [] a := ⟨List.nodup_nil, fun i h => by simp at h, rfl, by simp, by simp⟩
theorem PathInv.step (h : PathInv par a b V c) (hc : c ∉ V) (hb : c ≠ b) (hp : par c = some p) : PathInv par a b (V ++ [c]) p := by
  refine ⟨?_, fun i hi => ?_, ?_, ?_, ?_⟩
  · rw [List.nodup_append]
    exact ⟨h.nodup, by simp, fun x hx y hy e => by simp at hy; subst hy; subst e; exact hc hx⟩
  · by_cases e : i < V.length
    · rw [List.getElem_append_left e]; exact h.it i e
    · have : i = V.length := by simp at hi; omega
      subst this
      rw [List.getElem_append_right (Nat.le_refl _)]
      simpa using h.cur
  · rw [List.length_append, List.length_singleton, itF, h.cur]
    exact hp
  · simp only [List.mem_append, List.mem_singleton, not_or]
    exact ⟨h.nb, fun e => hb e.symm⟩
  · intro x hx
    simp only [List.mem_append, List.mem_singleton] at hx
    rcases hx with hx | rfl
    · exact h.pa x hx
    · simp [hp]
theorem PathInv.cycle (h : PathInv par a b V c) (hc : c ∈ V) (n : Nat) : underF par n a b = false := by
  have key : ∀ m x, itF par m a = some x → x ∈ V := by
    intro m
    induction m with
    | zero =>
      intro x hx
      by_cases h0 : 0 < V.length
      · have := h.it 0 h0; rw [this] at hx; cases hx; simp
      · have e : V.length = 0 := by omega
        have := h.cur; rw [e, hx] at this; cases this; exact hc
    | succ m ih =>
      intro x hx
      rw [itF] at hx
      cases hm : itF par m a with
      | none => rw [hm] at hx; cases hx
      | some y =>
        have hy := ih y hm
        rw [hm] at hx
        obtain ⟨i, hi, rfl⟩ := List.getElem_of_mem hy
        have h1 : itF par (i + 1) a = some x := by rw [itF, h.it i hi]; exact hx
        by_cases e : i + 1 < V.length
        · rw [h.it _ e] at h1; cases h1; simp
        · have e2 : i + 1 = V.length := by omega
          rw [e2, h.cur] at h1; cases h1; exact hc
  rw [← Bool.not_eq_true, underF_iff]
  rintro ⟨k, _, hk⟩
  exact h.nb (key k b hk)
theorem PathInv.hit (h : PathInv par a b V b) {n : Nat} (hn : V.length < n) : underF par n a b = true :=
  (underF_iff par b n a).2 ⟨V.length, hn, h.cur⟩
theorem PathInv.ends (h : PathInv par a b V c) (hb : c ≠ b) (hp : par c = none) (n : Nat) : underF par n a b = false := by
  rw [← Bool.not_eq_true, underF_iff]
  rintro ⟨k, _, hk⟩
  by_cases h1 : k < V.length
  · rw [h.it k h1] at hk; cases hk; exact h.nb (by simp)
  · by_cases h2 : k = V.length
    · subst h2; rw [h.cur] at hk; cases hk; exact hb rfl
    · have : ∀ j, itF par (V.length + 1 + j) a = none := by
        intro j
        induction j with
        | zero => rw [Nat.add_zero, itF, h.cur]; exact hp
        | succ j ih => rw [← Nat.add_assoc, itF, ih]; rfl
      rw [show k = V.length + 1 + (k - V.length - 1) by omega, this] at hk
      cases hk
end
theorem nodup_sub_length {α : Type} [DecidableEq α] : ∀ {l l' : List α}, l.Nodup → (∀ x ∈ l, x ∈ l') → l.length ≤ l'.length
  | [], _, _, _ => Nat.zero_le _
  | x :: l, l', hn, hs => by
    rw [List.nodup_cons] at hn
    have hx := hs x (by simp)
    have := nodup_sub_length (l := l) (l' := l'.erase x) hn.2 (fun y hy => by
      rw [List.mem_erase_of_ne (fun e => hn.1 (by rw [← e]; exact hy))]
      exact hs y (by simp [hy]))
    rw [List.length_erase_of_mem hx] at this
    have : 0 < l'.length := List.length_pos_of_mem hx
    simp
    omega
theorem parM_mem {xs : List FactD} {a : ID} (h : (parM xs a).isSome) : a ∈ xs.map (·.id) := by
  unfold parM at h
  rw [Option.isSome_map] at h
  cases hf : xs.find? (fun x => x.kind == 1 && decide (x.id = a)) with
  | none => rw [hf] at h; cases h
  | some y =>
    have h1 := List.mem_of_find?_eq_some hf
    have h2 := List.find?_some hf
    simp only [Bool.and_eq_true, decide_eq_true_eq] at h2
    rw [List.mem_map]
    exact ⟨y, h1, h2.2⟩
theorem PathInv.le {xs : List FactD} {a b c : ID} {V : List ID} (h : PathInv (parM xs) a b V c) : V.length ≤ xs.length := by
  have := nodup_sub_length h.nodup (fun x hx => parM_mem (h.pa x hx))
  simpa using this

/-! ### the closure 'under' -/
def boolV (b : Bool) : Value := .bool b
theorem zero4 (w : World) : (zeroValue 4).run Try.prog w = .ok (.bool false) w := by kernel_rfl
theorem look109 {m : Nat} {es : Array MapEntry} {clk : Nat} {L : List (ID × Bool)} (hr : RepK idV boolV es.toList L) (a : ID) : ∀ W : World, obj W m = some (.map es clk) →
    (Instr.lookup 109 (.map (some m)) (.agg (idL a).toArray) false).run Try.prog W = .ok (.bool ((kGet a L).getD false)) W := by
  intro W hW
  have := run_lookup1_k (w := W) (m := m) keyOK45 Try.underlying109 zero4 ⟨es, clk, hW, hr⟩ a
  unfold idV at this
  rw [this]
  cases kGet a L <;> rfl
/-- what the walk knows of a relation that 'related' made -/
structure RelAt (w : World) (ub m : Nat) (xs : List FactD) : Prop where
  box : obj w ub = some (.cells #[.map (some m)] 82 (0, 0))
  map : MapK w m idV idV (upM xs)
theorem RelAt.below {w W : World} {ub m : Nat} {xs : List FactD} (h : RelAt w ub m xs) (hb : Below w.heap.size w W) : RelAt W ub m xs :=
  ⟨(obj_below hb (lt_of_obj h.box)).trans h.box, h.map.of_obj (obj_below hb h.map.lt)⟩

set_option maxRecDepth 100000 in
set_option maxHeartbeats 2000000 in
theorem under_any (w : World) (ub m : Nat) (xs : List FactD) (a b : ID) (h : RelAt w ub m xs) :
    Calls Try.prog 63 #[.agg (idL a).toArray, .agg (idL b).toArray, .pointer (some ⟨ub, 0, none⟩)] w fun e w' => e = .returned (.bool (underM xs a b)) ∧ Below w.heap.size w w' := by
  have HU : Hid (∀ V c, PathInv (parM xs) a b V c → c ∈ V → underM xs a b = false) := Lib.hid fun V c hi hc => hi.cycle hc _
  have HH : Hid (∀ V, PathInv (parM xs) a b V b → underM xs a b = true) := Lib.hid fun V hi => hi.hit (by have := hi.le; omega)
  have HN : Hid (∀ V c, PathInv (parM xs) a b V c → c ≠ b → parM xs c = none → underM xs a b = false) := Lib.hid fun V c hi hb hp => hi.ends hb hp _
  have HR := Lib.hid h
  have hub := lt_of_obj h.box
  have hm := h.map.lt
  clear h
  generalize underM xs a b = r at *
  have hmm := @run_makeMap Try.prog
  go_enter Try.func63, Try.ntmps63
  go_wp2
  go_loopg [7, 8] (xs.length + 1) (fun gg _ _ wr => ∃ (V : List ID) (c : ID) (M : List (ID × Bool)), xs.length + 1 - V.length ≤ gg ∧ Hid (PathInv (parM xs) a b V c) ∧ MapK wr (w.heap.size + 2) idV boolV M ∧ Hid (∀ x, (kGet x M).getD false = decide (x ∈ V)) ∧
    Below w.heap.size w wr ∧ Hid (obj wr w.heap.size = some (.cells (idL c).toArray 45 (0, 0))) ∧ Hid (obj wr (w.heap.size + 1) = some (.cells (idL b).toArray 45 (0, 0))))
  case atStart => exact ⟨[], a, [], by simp, Lib.hid (PathInv.start _ a b), MapK.made_at _ (by simp) idV boolV, Lib.hid (by simp [kGet]), (((Below.refl _ w).alloc (Nat.le_refl _) _).alloc (by simp) _).alloc (by simp; omega) _, Lib.hid (by simp [go_sem]), Lib.hid (by simp [go_sem])⟩
  case round =>
    obtain ⟨V, c, M, hg, HI, hmp, HM, hb, O1, O2⟩ := hrel
    have o1 := O1.out
    have o2 := O2.out
    have z1 := lt_of_obj o1
    have z2 := lt_of_obj o2
    have hRel := HR.out.below hb
    obtain ⟨hbox, hmap⟩ := hRel
    obtain ⟨es, clk, ho, hr⟩ := hmap
    obtain ⟨esm, clkm, hom, hrm⟩ := hmp
    have z3 := lt_of_obj hom
    have hsz := hb.size
    have c0 : wr.cell? ⟨ub, 0, none⟩ = some (.map (some m)) := cell_at hbox 0
    have hl := look82 (m := m) (clk := clk) hr c
    have hl2 := look109 (m := w.heap.size + 2) (clk := clkm) hrm c
    rw [up_par] at hl
    rw [HM.out c] at hl2
    have hle := HI.out.le
    have hne1 : ub ≠ w.heap.size + 2 := by omega
    have hne2 : m ≠ w.heap.size + 2 := by omega
    have hne3 : m ≠ w.heap.size := by omega
    have hub' : ub < wr.heap.size := by omega
    have hm' : m < wr.heap.size := by omega
    by_cases hcV : c ∈ V
    · have hd : decide (c ∈ V) = true := by simpa using hcV
      have HE := Lib.hid (HU.out V c HI.out hcV)
      rw [hd] at hl2
      clear hcV hd
      go_wp2
      go_ret
      exact ⟨ret_bool HE.out.symm, hb⟩
    · have hd : decide (c ∈ V) = false := by simpa using hcV
      rw [hd] at hl2
      clear hd
      by_cases hcb : c = b
      · have hd : decide (c = b) = true := by simpa using hcb
        have HE : Hid (r = true) := Lib.hid (by
          have h1 := HI.out
          rw [hcb] at h1
          exact HH.out V h1)
        clear hcV hcb
        go_wp2
        go_ret
        exact ⟨ret_bool HE.out.symm, hb⟩
      · have hd : decide (c = b) = false := by simpa using hcb
        obtain ⟨es', clk', hu, hr'⟩ := run_mapUpdate_k (P := Try.prog) (t := 109) (clk := clkm) (enc := boolV) keyOK45 Try.underlying109 hrm (w.heap.size + 2) c true
        simp only [idV, boolV] at hu
        cases hp : parM xs c with
        | none =>
          have HE := Lib.hid (HN.out V c HI.out hcb hp)
          rw [hp] at hl
          clear hcV hcb hp
          go_wp2
          go_ret
          exact ⟨ret_bool HE.out.symm, (below_putObj hb (by omega) _).alloc (by rw [size_putObj]; omega) _⟩
        | some p =>
          have HE := Lib.hid (HI.out.step hcV hcb hp)
          rw [hp] at hl
          clear hcV hcb hp
          go_wp2
          go_roundg (xs.length + 1 - (V.length + 1))
          case measure => omega
          case rel => exact ⟨V ++ [c], p, kPut c true M, by simp, HE, ⟨es', clk', by simp [go_sem, z1, z3], hr'⟩, Lib.hid (fun x => by
              rw [kGet_put]
              by_cases e : x = c
              · subst e; simp
              · rw [if_neg e, HM.out x]; simp [e]), (below_putObj (below_putObj hb (by omega) _) (Nat.le_refl _) _).alloc (by rw [size_putObj, size_putObj]; omega) _, Lib.hid ((obj_alloc_past _ _ _ (by rw [size_putObj, size_putObj]; omega)).trans (obj_putObj_at _ _ _ (by rw [size_putObj]; omega))), Lib.hid ((obj_alloc_past _ _ _ (by rw [size_putObj, size_putObj]; omega)).trans ((obj_putObj_ne _ _ _ _ (by omega)).trans ((obj_putObj_ne _ _ _ _ (by omega)).trans o2)))⟩
end Go.Proofs.Ytmenfbfekfljbaa
